/- What each kind of record makes of the spool in the heap. -/
import Derived.Test.YtnljpfjoboafoaaDoorMb
namespace Go.Proofs.YtnljpfjoboafoaaDoor.Tab
set_option linter.all false
open Go Go.RowKit Go.Proofs.YtnljpfjoboafoaaDoor.Ev
theorem iCs_split {l : List Itm} {i : Nat} (h : i < l.length) : iCs l = iCs (l.take i) ++ (iC l[i] ++ iCs (l.drop (i + 1))) ∧ (iCs (l.take i)).length = i * 11 := by
  refine ⟨?_, by rw [iCs_len, List.length_take]; congr 1; omega⟩
  conv => lhs; rw [← List.take_append_drop i l, List.drop_eq_getElem_cons h]
  rw [iCs, List.flatMap_append, List.flatMap_cons]
theorem iC_at {l : List Itm} {i : Nat} (h : i < l.length) (j : Nat) (hj : j < 11) : ((iCs l).drop (i * 11 + j)).take 1 = ((iC l[i]).drop j).take 1 := by
  obtain ⟨e, hl⟩ := iCs_split h
  have h11 : (iC l[i]).length = 11 := rfl
  rw [e, ← hl, ← List.drop_drop, List.drop_left, List.drop_append_of_le_length (by omega), List.take_append_of_le_length (by rw [List.length_drop]; omega)]
theorem st_at {l : List Itm} {i : Nat} (h : i < l.length) : ((iCs l).drop (i * 11 + 9)).take 1 = [.int .i64 l[i].state] := iC_at h 9 (by decide)
theorem pk_at {l : List Itm} {i : Nat} (h : i < l.length) : ((iCs l).drop (i * 11 + 10)).take 1 = [.int .i64 l[i].pack] := iC_at h 10 (by decide)
theorem iCs_set {l : List Itm} {i : Nat} (h : i < l.length) (x : Itm) : iCs (l.set i x) = iCs (l.take i) ++ (iC x ++ iCs (l.drop (i + 1))) := by
  rw [List.set_eq_take_append_cons_drop, if_pos h, iCs, List.flatMap_append, List.flatMap_cons]
theorem put_at {l : List Itm} {i : Nat} (h : i < l.length) (j : Nat) (hj : j < 11) (v : PV) : (iCs l).take (i * 11 + j) ++ [v] ++ (iCs l).drop (i * 11 + j + 1) = iCs (l.take i) ++ ((iC l[i]).take j ++ [v] ++ (iC l[i]).drop (j + 1) ++ iCs (l.drop (i + 1))) := by
  obtain ⟨e, hl⟩ := iCs_split h
  have h11 : (iC l[i]).length = 11 := rfl
  rw [e, ← hl, List.take_length_add_append, List.take_append_of_le_length (by omega), show (iCs (l.take i)).length + j + 1 = (iCs (l.take i)).length + (j + 1) by omega, ← List.drop_drop, List.drop_left, List.drop_append_of_le_length (by omega)]
  simp only [List.append_assoc]
theorem put_st {l : List Itm} {i : Nat} (h : i < l.length) (v : Int) : (iCs l).take (i * 11 + 9) ++ [.int .i64 v] ++ (iCs l).drop (i * 11 + 9 + 1) = iCs (l.set i { l[i] with state := v }) := by
  rw [put_at h 9 (by decide), iCs_set h]; rfl
theorem put_pk {l : List Itm} {i : Nat} (h : i < l.length) (v : Int) : (iCs l).take (i * 11 + 10) ++ [.int .i64 v] ++ (iCs l).drop (i * 11 + 10 + 1) = iCs (l.set i { l[i] with pack := v }) := by
  rw [put_at h 10 (by decide), iCs_set h]; rfl
/-- The end of a function that hands back a truth value. -/
theorem fin_bool {f : Nat} {F : LF} {args : List PV} {H H1 : Hp} {k : Nat} {t : Bool} {q p : Nat} {s : Spl} {a b c d : PV} (h1 : ov f = none) (h2 : lt f = some F) (h3 : args.length = F.np) (hpub : F.pub = false) (hres : F.res = [.t 0])
    (he : evL T k F.body args H = some (.rt, [.bool t], H1)) (hS : SH H1 q p s a b c d) (hn : H.length ≤ H1.length) (hp : p < H.length) (hq : q < H.length) : ∃ H', T f args H = some (.bool t, H') ∧ SHx H' q p s ∧ H.length ≤ H'.length := by
  refine ⟨_, evT_of (k := k) (F := F) (H' := H1) (e := [.bool t]) (l := [.bool t]) h1 h2 h3 he (by rw [hres]; rfl) (by rw [hpub]; rfl), hS.compact hn hp hq, cpt_len hn⟩
def waitS (s : Spl) (id : Int) : Bool := decide (1 ≤ id) && decide (id ≤ s.items.length) && (match s.items[(id - 1).toNat]? with | some x => decide (x.state = 1) | none => false)
section
variable {H : Hp} {q p : Nat} {s : Spl} {a b c d : PV}
theorem w_id {id : Int} (h1 : 1 ≤ id) (h2 : id ≤ 1000000) : IntKind.i64.wrap (id - 1) = id - 1 := wr (by omega) (by omega)
theorem T_waits (h : SH H q p s a b c d) (id : Int) (hl : s.items.length ≤ 1000000) : ∃ H', T 49 [.ptr p 0, .int .i64 id] H = some (.bool (waitS s id), H') ∧ SHx H' q p s ∧ H.length ≤ H'.length := by
  refine fin_bool (k := 0) (F := l49) rfl rfl rfl rfl rfl ?_ h (Nat.le_refl _) h.plt h.qlt
  show evL T 0 q49 _ _ = _
  have hp := h.at_
  unfold cellS at hp
  unfold waitS
  by_cases h1 : 1 ≤ id
  · rcases h.ra with ⟨h0, rfl⟩ | ⟨h0, k, z, rfl, hz, hk⟩ | ⟨h0, k, rfl, hk⟩
    · have h2 : ¬ id ≤ ((0 : Nat) : Int) := by omega
      rw [h0]
      simp only [q49, evL_op, evL_sel, evL_nx, evL_exit, evL_ret, evL_join, evL_block, evL_cond, evK_some, evJ_nx, evJ_rt, evJ_ex, evB_nx, evB_rt, evB_ex, evC2_bool, evS_and, evS_or, evS_tf, evS_ft, ev_t, ev_s, ev_c, evalOp, bin_add, bin_sub, bin_mul, bin_eql, bin_neq, bin_lss, bin_leq, bin_gtr, bin_geq, sbin_eql, sbin_neq, b8, List.map_cons, List.map_nil, PV.rens, PV.ren, if_true, if_false, Bool.false_eq_true, reduceIte, Nat.reduceAdd, Nat.reduceSub, Nat.reduceMul, Nat.reduceEqDiff, Nat.reduceLeDiff, Int.reduceLE, Int.reduceLT, Int.reduceEq, Int.reduceToNat, Int.reduceAdd, Int.reduceSub, Int.reduceNeg, decide_true, decide_false, Bool.not_true, Bool.not_false, Bool.true_and, Bool.false_and, Bool.and_true, Bool.and_false, Bool.or_true, Bool.true_or, Bool.or_false, Bool.false_or, and_self, and_true, true_and, Nat.le_refl, Nat.zero_add, Nat.mul_one, Nat.one_ne_zero, Nat.zero_le, highP, lowP, Option.map_some, Option.map_none, List.drop_zero, List.take_zero, List.length_cons, List.length_nil, List.nil_append, List.append_nil, List.cons_append, fillP, PV.cells?, PV.one, PV.cleans, PV.clean, PV.of?, List.all_cons, List.all_nil, List.take_succ_cons, List.drop_succ_cons, Bool.and_self, Int.natCast_nonneg, Int.toNat_natCast, Int.toNat_zero, PV.of?, Tk.ren, tailP, evL_loop, or_true, true_or, Nat.zero_lt_one, Nat.sub_zero, List.getElem?_cons_zero, List.getElem?_cons_succ, List.set_cons_zero, List.set_cons_succ, List.take_length, h1, hp, h2]
    · have h2 : ¬ id ≤ ((0 : Nat) : Int) := by omega
      rw [h0]
      simp only [q49, evL_op, evL_sel, evL_nx, evL_exit, evL_ret, evL_join, evL_block, evL_cond, evK_some, evJ_nx, evJ_rt, evJ_ex, evB_nx, evB_rt, evB_ex, evC2_bool, evS_and, evS_or, evS_tf, evS_ft, ev_t, ev_s, ev_c, evalOp, bin_add, bin_sub, bin_mul, bin_eql, bin_neq, bin_lss, bin_leq, bin_gtr, bin_geq, sbin_eql, sbin_neq, b8, List.map_cons, List.map_nil, PV.rens, PV.ren, if_true, if_false, Bool.false_eq_true, reduceIte, Nat.reduceAdd, Nat.reduceSub, Nat.reduceMul, Nat.reduceEqDiff, Nat.reduceLeDiff, Int.reduceLE, Int.reduceLT, Int.reduceEq, Int.reduceToNat, Int.reduceAdd, Int.reduceSub, Int.reduceNeg, decide_true, decide_false, Bool.not_true, Bool.not_false, Bool.true_and, Bool.false_and, Bool.and_true, Bool.and_false, Bool.or_true, Bool.true_or, Bool.or_false, Bool.false_or, and_self, and_true, true_and, Nat.le_refl, Nat.zero_add, Nat.mul_one, Nat.one_ne_zero, Nat.zero_le, highP, lowP, Option.map_some, Option.map_none, List.drop_zero, List.take_zero, List.length_cons, List.length_nil, List.nil_append, List.append_nil, List.cons_append, fillP, PV.cells?, PV.one, PV.cleans, PV.clean, PV.of?, List.all_cons, List.all_nil, List.take_succ_cons, List.drop_succ_cons, Bool.and_self, Int.natCast_nonneg, Int.toNat_natCast, Int.toNat_zero, PV.of?, Tk.ren, tailP, evL_loop, or_true, true_or, Nat.zero_lt_one, Nat.sub_zero, List.getElem?_cons_zero, List.getElem?_cons_succ, List.set_cons_zero, List.set_cons_succ, List.take_length, h1, hp, h2]
    · by_cases h2 : id ≤ (s.items.length : Int)
      · obtain ⟨i, hi⟩ : ∃ i : Nat, id - 1 = i := ⟨(id - 1).toNat, by omega⟩
        have hil : i < s.items.length := by omega
        have h3 := w_id h1 (by omega)
        have h4 : (i : Int) < s.items.length := by omega
        have h5 := st_at hil
        rw [hi] at h3
        rw [hi, Int.toNat_natCast, List.getElem?_eq_getElem hil]
        simp only [q49, evL_op, evL_sel, evL_nx, evL_exit, evL_ret, evL_join, evL_block, evL_cond, evK_some, evJ_nx, evJ_rt, evJ_ex, evB_nx, evB_rt, evB_ex, evC2_bool, evS_and, evS_or, evS_tf, evS_ft, ev_t, ev_s, ev_c, evalOp, bin_add, bin_sub, bin_mul, bin_eql, bin_neq, bin_lss, bin_leq, bin_gtr, bin_geq, sbin_eql, sbin_neq, b8, List.map_cons, List.map_nil, PV.rens, PV.ren, if_true, if_false, Bool.false_eq_true, reduceIte, Nat.reduceAdd, Nat.reduceSub, Nat.reduceMul, Nat.reduceEqDiff, Nat.reduceLeDiff, Int.reduceLE, Int.reduceLT, Int.reduceEq, Int.reduceToNat, Int.reduceAdd, Int.reduceSub, Int.reduceNeg, decide_true, decide_false, Bool.not_true, Bool.not_false, Bool.true_and, Bool.false_and, Bool.and_true, Bool.and_false, Bool.or_true, Bool.true_or, Bool.or_false, Bool.false_or, and_self, and_true, true_and, Nat.le_refl, Nat.zero_add, Nat.mul_one, Nat.one_ne_zero, Nat.zero_le, highP, lowP, Option.map_some, Option.map_none, List.drop_zero, List.take_zero, List.length_cons, List.length_nil, List.nil_append, List.append_nil, List.cons_append, fillP, PV.cells?, PV.one, PV.cleans, PV.clean, PV.of?, List.all_cons, List.all_nil, List.take_succ_cons, List.drop_succ_cons, Bool.and_self, Int.natCast_nonneg, Int.toNat_natCast, Int.toNat_zero, PV.of?, Tk.ren, tailP, evL_loop, or_true, true_or, Nat.zero_lt_one, Nat.sub_zero, List.getElem?_cons_zero, List.getElem?_cons_succ, List.set_cons_zero, List.set_cons_succ, List.take_length, h1, hp, h2, h3, hi, h4, hk, h5]
      · simp only [q49, evL_op, evL_sel, evL_nx, evL_exit, evL_ret, evL_join, evL_block, evL_cond, evK_some, evJ_nx, evJ_rt, evJ_ex, evB_nx, evB_rt, evB_ex, evC2_bool, evS_and, evS_or, evS_tf, evS_ft, ev_t, ev_s, ev_c, evalOp, bin_add, bin_sub, bin_mul, bin_eql, bin_neq, bin_lss, bin_leq, bin_gtr, bin_geq, sbin_eql, sbin_neq, b8, List.map_cons, List.map_nil, PV.rens, PV.ren, if_true, if_false, Bool.false_eq_true, reduceIte, Nat.reduceAdd, Nat.reduceSub, Nat.reduceMul, Nat.reduceEqDiff, Nat.reduceLeDiff, Int.reduceLE, Int.reduceLT, Int.reduceEq, Int.reduceToNat, Int.reduceAdd, Int.reduceSub, Int.reduceNeg, decide_true, decide_false, Bool.not_true, Bool.not_false, Bool.true_and, Bool.false_and, Bool.and_true, Bool.and_false, Bool.or_true, Bool.true_or, Bool.or_false, Bool.false_or, and_self, and_true, true_and, Nat.le_refl, Nat.zero_add, Nat.mul_one, Nat.one_ne_zero, Nat.zero_le, highP, lowP, Option.map_some, Option.map_none, List.drop_zero, List.take_zero, List.length_cons, List.length_nil, List.nil_append, List.append_nil, List.cons_append, fillP, PV.cells?, PV.one, PV.cleans, PV.clean, PV.of?, List.all_cons, List.all_nil, List.take_succ_cons, List.drop_succ_cons, Bool.and_self, Int.natCast_nonneg, Int.toNat_natCast, Int.toNat_zero, PV.of?, Tk.ren, tailP, evL_loop, or_true, true_or, Nat.zero_lt_one, Nat.sub_zero, List.getElem?_cons_zero, List.getElem?_cons_succ, List.set_cons_zero, List.set_cons_succ, List.take_length, h1, hp, h2]
  · simp only [q49, evL_op, evL_sel, evL_nx, evL_exit, evL_ret, evL_join, evL_block, evL_cond, evK_some, evJ_nx, evJ_rt, evJ_ex, evB_nx, evB_rt, evB_ex, evC2_bool, evS_and, evS_or, evS_tf, evS_ft, ev_t, ev_s, ev_c, evalOp, bin_add, bin_sub, bin_mul, bin_eql, bin_neq, bin_lss, bin_leq, bin_gtr, bin_geq, sbin_eql, sbin_neq, b8, List.map_cons, List.map_nil, PV.rens, PV.ren, if_true, if_false, Bool.false_eq_true, reduceIte, Nat.reduceAdd, Nat.reduceSub, Nat.reduceMul, Nat.reduceEqDiff, Nat.reduceLeDiff, Int.reduceLE, Int.reduceLT, Int.reduceEq, Int.reduceToNat, Int.reduceAdd, Int.reduceSub, Int.reduceNeg, decide_true, decide_false, Bool.not_true, Bool.not_false, Bool.true_and, Bool.false_and, Bool.and_true, Bool.and_false, Bool.or_true, Bool.true_or, Bool.or_false, Bool.false_or, and_self, and_true, true_and, Nat.le_refl, Nat.zero_add, Nat.mul_one, Nat.one_ne_zero, Nat.zero_le, highP, lowP, Option.map_some, Option.map_none, List.drop_zero, List.take_zero, List.length_cons, List.length_nil, List.nil_append, List.append_nil, List.cons_append, fillP, PV.cells?, PV.one, PV.cleans, PV.clean, PV.of?, List.all_cons, List.all_nil, List.take_succ_cons, List.drop_succ_cons, Bool.and_self, Int.natCast_nonneg, Int.toNat_natCast, Int.toNat_zero, PV.of?, Tk.ren, tailP, evL_loop, or_true, true_or, Nat.zero_lt_one, Nat.sub_zero, List.getElem?_cons_zero, List.getElem?_cons_succ, List.set_cons_zero, List.set_cons_succ, List.take_length, h1]
/-- Numbers as they are lent to who only reads. -/
theorem lend_row {n : Nat} {l : List Int} (h : RowAt H 1 d (nCs l) n) (hn : l.length = n) : ∃ d', d.lend H = some d' ∧ LS 1 l.length (nCs l) d' := by
  rcases h with ⟨h0, rfl⟩ | ⟨h0, k, z, rfl, hz, hk⟩ | ⟨h0, k, rfl, hk⟩
  · obtain rfl : l = [] := List.eq_nil_of_length_eq_zero (by omega)
    exact ⟨_, rfl, LS.nil 1⟩
  · obtain rfl : l = [] := List.eq_nil_of_length_eq_zero (by omega)
    exact ⟨.sl .no z 0 [], rfl, .no, z, rfl, .inl rfl, .inr rfl⟩
  · refine ⟨.sl .no 1 n (nCs l), ?_, .no, 1, by rw [hn], .inl rfl, .inl rfl⟩
    have hl : (nCs l).length ≤ n := by simp; omega
    have h1 : 0 + n ≤ (nCs l).length := by simp; omega
    simp only [PV.lend, hk, h1, if_true, List.drop_zero, Nat.mul_one, List.take_of_length_le hl, ints_cleans, ints_one]
theorem T_containsL {l : List Int} {x : PV} (h : LS 1 l.length (nCs l) x) (y : Int) (hs : l.length ≤ 9000000000000000000) : ∃ H', T 26 [x, .int .i64 y] [] = some (.bool (decide (y ∈ l)), H') := by
  obtain ⟨t, z, rfl, ht, hz⟩ := h
  by_cases h0 : l.length = 0
  · obtain rfl : l = [] := List.eq_nil_of_length_eq_zero h0
    rw [show decide (y ∈ ([] : List Int)) = false by simp]
    rcases ht with rfl | ⟨rfl, _⟩
    · exact ⟨[], T_contains0 z y⟩
    · exact ⟨[], evT_iff.2 ⟨300, by kernel_rfl⟩⟩
  · obtain rfl : z = 1 := hz.resolve_right h0
    obtain rfl : t = .no := ht.resolve_right (fun h => h0 h.2)
    exact ⟨[], T_contains l y hs⟩
def comesS (s : Spl) (n : Int) : Bool := decide (1 ≤ n) && decide (n ≤ 65535) && !decide (n ∈ s.done)
theorem T_comes (h : SH H q p s a b c d) (n : Int) (hl : s.done.length ≤ 1000000) : ∃ H', T 50 [.ptr p 0, .int .i64 n] H = some (.bool (comesS s n), H') ∧ SHx H' q p s ∧ H.length ≤ H'.length := by
  refine fin_bool (k := 0) (F := l50) rfl rfl rfl rfl rfl ?_ h (Nat.le_refl _) h.plt h.qlt
  show evL T 0 q50 _ _ = _
  have hp := h.at_
  unfold cellS at hp
  obtain ⟨d', hd, hL⟩ := lend_row h.rd.at_ rfl
  obtain ⟨H', c26⟩ := T_containsL hL n (by omega)
  have hL2 : lendL H [d, .int .i64 n] = some [d', .int .i64 n] := by
    simp only [lendL, hd]
    rfl
  unfold comesS
  by_cases h1 : 1 ≤ n
  · by_cases h2 : n ≤ 65535
    · simp only [q50, evL_op, evL_sel, evL_nx, evL_exit, evL_ret, evL_join, evL_block, evL_cond, evK_some, evJ_nx, evJ_rt, evJ_ex, evB_nx, evB_rt, evB_ex, evC2_bool, evS_and, evS_or, evS_tf, evS_ft, ev_t, ev_s, ev_c, evalOp, bin_add, bin_sub, bin_mul, bin_eql, bin_neq, bin_lss, bin_leq, bin_gtr, bin_geq, sbin_eql, sbin_neq, b8, List.map_cons, List.map_nil, PV.rens, PV.ren, if_true, if_false, Bool.false_eq_true, reduceIte, Nat.reduceAdd, Nat.reduceSub, Nat.reduceMul, Nat.reduceEqDiff, Nat.reduceLeDiff, Int.reduceLE, Int.reduceLT, Int.reduceEq, Int.reduceToNat, Int.reduceAdd, Int.reduceSub, Int.reduceNeg, decide_true, decide_false, Bool.not_true, Bool.not_false, Bool.true_and, Bool.false_and, Bool.and_true, Bool.and_false, Bool.or_true, Bool.true_or, Bool.or_false, Bool.false_or, and_self, and_true, true_and, Nat.le_refl, Nat.zero_add, Nat.mul_one, Nat.one_ne_zero, Nat.zero_le, highP, lowP, Option.map_some, Option.map_none, List.drop_zero, List.take_zero, List.length_cons, List.length_nil, List.nil_append, List.append_nil, List.cons_append, fillP, PV.cells?, PV.one, PV.cleans, PV.clean, PV.of?, List.all_cons, List.all_nil, List.take_succ_cons, List.drop_succ_cons, Bool.and_self, Int.natCast_nonneg, Int.toNat_natCast, Int.toNat_zero, PV.of?, Tk.ren, tailP, evL_loop, or_true, true_or, Nat.zero_lt_one, Nat.sub_zero, List.getElem?_cons_zero, List.getElem?_cons_succ, List.set_cons_zero, List.set_cons_succ, List.take_length, h1, h2, hp, hL2, c26, PV.scal, PV.scal0]
    · simp only [q50, evL_op, evL_sel, evL_nx, evL_exit, evL_ret, evL_join, evL_block, evL_cond, evK_some, evJ_nx, evJ_rt, evJ_ex, evB_nx, evB_rt, evB_ex, evC2_bool, evS_and, evS_or, evS_tf, evS_ft, ev_t, ev_s, ev_c, evalOp, bin_add, bin_sub, bin_mul, bin_eql, bin_neq, bin_lss, bin_leq, bin_gtr, bin_geq, sbin_eql, sbin_neq, b8, List.map_cons, List.map_nil, PV.rens, PV.ren, if_true, if_false, Bool.false_eq_true, reduceIte, Nat.reduceAdd, Nat.reduceSub, Nat.reduceMul, Nat.reduceEqDiff, Nat.reduceLeDiff, Int.reduceLE, Int.reduceLT, Int.reduceEq, Int.reduceToNat, Int.reduceAdd, Int.reduceSub, Int.reduceNeg, decide_true, decide_false, Bool.not_true, Bool.not_false, Bool.true_and, Bool.false_and, Bool.and_true, Bool.and_false, Bool.or_true, Bool.true_or, Bool.or_false, Bool.false_or, and_self, and_true, true_and, Nat.le_refl, Nat.zero_add, Nat.mul_one, Nat.one_ne_zero, Nat.zero_le, highP, lowP, Option.map_some, Option.map_none, List.drop_zero, List.take_zero, List.length_cons, List.length_nil, List.nil_append, List.append_nil, List.cons_append, fillP, PV.cells?, PV.one, PV.cleans, PV.clean, PV.of?, List.all_cons, List.all_nil, List.take_succ_cons, List.drop_succ_cons, Bool.and_self, Int.natCast_nonneg, Int.toNat_natCast, Int.toNat_zero, PV.of?, Tk.ren, tailP, evL_loop, or_true, true_or, Nat.zero_lt_one, Nat.sub_zero, List.getElem?_cons_zero, List.getElem?_cons_succ, List.set_cons_zero, List.set_cons_succ, List.take_length, h1, h2]
  · simp only [q50, evL_op, evL_sel, evL_nx, evL_exit, evL_ret, evL_join, evL_block, evL_cond, evK_some, evJ_nx, evJ_rt, evJ_ex, evB_nx, evB_rt, evB_ex, evC2_bool, evS_and, evS_or, evS_tf, evS_ft, ev_t, ev_s, ev_c, evalOp, bin_add, bin_sub, bin_mul, bin_eql, bin_neq, bin_lss, bin_leq, bin_gtr, bin_geq, sbin_eql, sbin_neq, b8, List.map_cons, List.map_nil, PV.rens, PV.ren, if_true, if_false, Bool.false_eq_true, reduceIte, Nat.reduceAdd, Nat.reduceSub, Nat.reduceMul, Nat.reduceEqDiff, Nat.reduceLeDiff, Int.reduceLE, Int.reduceLT, Int.reduceEq, Int.reduceToNat, Int.reduceAdd, Int.reduceSub, Int.reduceNeg, decide_true, decide_false, Bool.not_true, Bool.not_false, Bool.true_and, Bool.false_and, Bool.and_true, Bool.and_false, Bool.or_true, Bool.true_or, Bool.or_false, Bool.false_or, and_self, and_true, true_and, Nat.le_refl, Nat.zero_add, Nat.mul_one, Nat.one_ne_zero, Nat.zero_le, highP, lowP, Option.map_some, Option.map_none, List.drop_zero, List.take_zero, List.length_cons, List.length_nil, List.nil_append, List.append_nil, List.cons_append, fillP, PV.cells?, PV.one, PV.cleans, PV.clean, PV.of?, List.all_cons, List.all_nil, List.take_succ_cons, List.drop_succ_cons, Bool.and_self, Int.natCast_nonneg, Int.toNat_natCast, Int.toNat_zero, PV.of?, Tk.ren, tailP, evL_loop, or_true, true_or, Nat.zero_lt_one, Nat.sub_zero, List.getElem?_cons_zero, List.getElem?_cons_succ, List.set_cons_zero, List.set_cons_succ, List.take_length, h1]
end
end Go.Proofs.YtnljpfjoboafoaaDoor.Tab

namespace Go.Proofs.YtnljpfjoboafoaaDoor.Tab
set_option linter.all false
open Go Go.RowKit Go.Proofs.YtnljpfjoboafoaaDoor.Ev
theorem modify_set {l : List Itm} {i : Nat} (h : i < l.length) (f : Itm → Itm) : l.modify i f = l.set i (f l[i]) := by
  apply List.ext_getElem?
  intro j
  rw [List.getElem?_modify, List.getElem?_set]
  by_cases e : i = j
  · subst e; simp [h]
  · simp [e]
section
variable {H : Hp} {q p : Nat} {s : Spl} {a b c d : PV}
theorem SH.sep (h : SH H q p s a b c d) : p ≠ q ∧ (∀ k ∈ a.toks, k ≠ p ∧ k ≠ q) ∧ (∀ k ∈ b.toks, k ≠ p ∧ k ≠ q) ∧ (∀ k ∈ c.toks, k ≠ p ∧ k ≠ q) ∧ (∀ k ∈ d.toks, k ≠ p ∧ k ≠ q) ∧
    (∀ k ∈ a.toks, k ∉ b.toks ∧ k ∉ c.toks ∧ k ∉ d.toks) ∧ (∀ k ∈ b.toks, k ∉ c.toks ∧ k ∉ d.toks) ∧ (∀ k ∈ c.toks, k ∉ d.toks) := by
  obtain ⟨h1, h2⟩ := List.nodup_cons.1 h.nd
  obtain ⟨h3, h4⟩ := List.nodup_cons.1 h2
  simp only [List.mem_cons, List.mem_append, not_or] at h1 h3
  obtain ⟨g0, g1, g2, g3, g4⟩ := h1
  obtain ⟨f1, f2, f3, f4⟩ := h3
  obtain ⟨_, e1, e2⟩ := List.nodup_append.1 h4
  obtain ⟨_, e3, e4⟩ := List.nodup_append.1 e1
  obtain ⟨_, _, e5⟩ := List.nodup_append.1 e3
  refine ⟨g0, fun k hk => ⟨fun e => g1 (e ▸ hk), fun e => f1 (e ▸ hk)⟩, fun k hk => ⟨fun e => g2 (e ▸ hk), fun e => f2 (e ▸ hk)⟩, fun k hk => ⟨fun e => g3 (e ▸ hk), fun e => f3 (e ▸ hk)⟩, fun k hk => ⟨fun e => g4 (e ▸ hk), fun e => f4 (e ▸ hk)⟩, fun k hk => ⟨fun hc => ?_, fun hc => ?_, fun hc => ?_⟩, fun k hk => ⟨fun hc => ?_, fun hc => ?_⟩, fun k hk hc => ?_⟩
  · exact e2 k hk k (List.mem_append_left _ hc) rfl
  · exact e2 k hk k (List.mem_append_right _ (List.mem_append_left _ hc)) rfl
  · exact e2 k hk k (List.mem_append_right _ (List.mem_append_right _ hc)) rfl
  · exact e4 k hk k (List.mem_append_left _ hc) rfl
  · exact e4 k hk k (List.mem_append_right _ hc) rfl
  · exact e5 k hk k hc rfl
/-- The spool's variable written: the rows stay where they are. -/
theorem SH.store {s' : Spl} (h : SH H q p s a b c d) (hi : s'.items = s.items) (hs : s'.sent = s.sent) (hp : s'.part = s.part) (hd : s'.done = s.done) : SH (H.set p (.cells (cellS a b c d s'))) q p s' a b c d := by
  obtain ⟨p0, p1, p2, p3, p4, _⟩ := h.sep
  have hk : ∀ k, k ≠ p → (H.set p (.cells (cellS a b c d s')))[k]? = H[k]? := fun k hk => List.getElem?_set_ne (fun e => hk e.symm)
  refine ⟨List.getElem?_set_self h.plt, ?_, ?_, ?_, ?_, h.nd, ?_⟩
  · rw [hi]; exact h.ra.mono fun k hm => hk k (p1 k hm).1
  · rw [hs]; exact h.rb.mono fun k hm => hk k (p2 k hm).1
  · rw [hp]; exact h.rc.mono fun k hm => hk k (p3 k hm).1
  · rw [hd]; exact h.rd.mono fun k hm => hk k (p4 k hm).1
  · obtain ⟨cs, h1, h2⟩ := h.aq
    exact ⟨cs, by rw [hk q p0.symm]; exact h1, h2⟩
/-- The row of items written in place. -/
theorem SH.row {k : Nat} {l : List Itm} (h : SH H q p s (.row k 0 11 s.items.length) b c d) (hl : l.length = s.items.length) (h0 : 0 < l.length) : SH (H.set k (.cells (iCs l))) q p { s with items := l } (.row k 0 11 l.length) b c d := by
  obtain ⟨p0, p1, p2, p3, p4, p5, _⟩ := h.sep
  have hkk : k ∈ (PV.row k 0 11 s.items.length).toks := by simp [PV.toks]
  have hkl := h.ra.lt k hkk
  have hk : ∀ j, j ≠ k → (H.set k (.cells (iCs l)))[j]? = H[j]? := fun j hj => List.getElem?_set_ne (fun e => hj e.symm)
  have hp := h.at_
  obtain ⟨n1, n2, n3⟩ := p5 k hkk
  refine ⟨by rw [hk p (p1 k hkk).1.symm, hl]; exact hp, .inr (.inr ⟨h0, k, rfl, List.getElem?_set_self hkl⟩), h.rb.mono fun j hm => hk j (fun e => n1 (e ▸ hm)), h.rc.mono fun j hm => hk j (fun e => n2 (e ▸ hm)), h.rd.mono fun j hm => hk j (fun e => n3 (e ▸ hm)), h.nd, ?_⟩
  obtain ⟨cs, h1, h2⟩ := h.aq
  exact ⟨cs, by rw [hk q (p1 k hkk).2.symm]; exact h1, h2⟩
def bounceS (s : Spl) (id : Int) : Option Spl := if waitS s id = true then some { s with items := s.items.modify (id - 1).toNat fun x => { x with state := 4 } } else none
theorem T_bounce {r : Rc} {cs : List PV} (h : SH H q p s a b c d) (hr : RecR r cs) (hl : s.items.length ≤ 1000000) :
    ∃ H', T 37 [.ptr p 0, .agg cs] H = some (.bool (bounceS s r.id).isSome, H') ∧ SHx H' q p ((bounceS s r.id).getD s) ∧ H.length ≤ H'.length := by
  obtain ⟨x1, x2, x3⟩ := hr.box
  obtain ⟨ra, rb, rc, rd, rfl, _⟩ := hr
  obtain ⟨H1, c49, ⟨a1, b1, c1, d1, h1⟩, hlen⟩ := T_waits h r.id hl
  have hpl := h.plt
  have hql := h.qlt
  unfold bounceS
  cases hw : waitS s r.id with
  | false =>
    rw [hw] at c49
    rw [if_neg (by decide)]
    refine fin_bool (k := 0) (F := l37) rfl rfl rfl rfl rfl ?_ h1 hlen hpl hql
    show evL T 0 q37 _ _ = _
    unfold q37
    rw [evL_op, bx (by rfl) x1 x2, evK_some]
    simp only [evL_op, evL_sel, evL_nx, evL_exit, evL_ret, evL_join, evL_block, evL_cond, evK_some, evJ_nx, evJ_rt, evJ_ex, evB_nx, evB_rt, evB_ex, evC2_bool, evS_and, evS_or, evS_tf, evS_ft, ev_t, ev_s, ev_c, evalOp, bin_add, bin_sub, bin_mul, bin_eql, bin_neq, bin_lss, bin_leq, bin_gtr, bin_geq, sbin_eql, sbin_neq, b8, List.map_cons, List.map_nil, PV.rens, PV.ren, if_true, if_false, Bool.false_eq_true, reduceIte, Nat.reduceAdd, Nat.reduceSub, Nat.reduceMul, Nat.reduceEqDiff, Nat.reduceLeDiff, Int.reduceLE, Int.reduceLT, Int.reduceEq, Int.reduceToNat, Int.reduceAdd, Int.reduceSub, Int.reduceNeg, decide_true, decide_false, Bool.not_true, Bool.not_false, Bool.true_and, Bool.false_and, Bool.and_true, Bool.and_false, Bool.or_true, Bool.true_or, Bool.or_false, Bool.false_or, and_self, and_true, true_and, Nat.le_refl, Nat.zero_add, Nat.mul_one, Nat.one_ne_zero, Nat.zero_le, highP, lowP, Option.map_some, Option.map_none, List.drop_zero, List.take_zero, List.length_cons, List.length_nil, List.nil_append, List.append_nil, List.cons_append, fillP, PV.cells?, PV.one, PV.cleans, PV.clean, PV.of?, List.all_cons, List.all_nil, List.take_succ_cons, List.drop_succ_cons, Bool.and_self, Int.natCast_nonneg, Int.toNat_natCast, Int.toNat_zero, PV.of?, Tk.ren, tailP, evL_loop, or_true, true_or, Nat.zero_lt_one, Nat.sub_zero, List.getElem?_cons_zero, List.getElem?_cons_succ, List.set_cons_zero, List.set_cons_succ, List.take_length, c49]
    rfl
  | true =>
    rw [hw] at c49
    rw [if_pos rfl]
    have hw' := hw
    unfold waitS at hw'
    simp only [Bool.and_eq_true, decide_eq_true_eq] at hw'
    obtain ⟨⟨w1, w2⟩, w3⟩ := hw'
    obtain ⟨i, hi⟩ : ∃ i : Nat, r.id - 1 = i := ⟨(r.id - 1).toNat, by omega⟩
    have hil : i < s.items.length := by omega
    have h3 := w_id w1 (by omega)
    rw [hi] at h3
    have h4 : (i : Int) < s.items.length := by omega
    rcases h1.ra with ⟨h0, rfl⟩ | ⟨h0, k, z, rfl, hz, hk⟩ | ⟨h0, k, rfl, hk⟩
    · omega
    · omega
    · have hp := h1.at_
      unfold cellS at hp
      have hps := put_st hil 4
      have hle : i * 11 + 9 + 1 ≤ (iCs s.items).length := by rw [iCs_len]; omega
      have hset : s.items.modify i (fun x => { x with state := 4 }) = s.items.set i { s.items[i] with state := 4 } := modify_set hil _
      have hS := h1.row (l := s.items.set i { s.items[i] with state := 4 }) (by simp) (by simp; omega)
      rw [hi, Int.toNat_natCast, hset]
      refine fin_bool (k := 0) (F := l37) rfl rfl rfl rfl rfl ?_ hS (by simp; omega) hpl hql
      show evL T 0 q37 _ _ = _
      unfold q37
      rw [evL_op, bx (by rfl) x1 x2, evK_some]
      simp only [evL_op, evL_sel, evL_nx, evL_exit, evL_ret, evL_join, evL_block, evL_cond, evK_some, evJ_nx, evJ_rt, evJ_ex, evB_nx, evB_rt, evB_ex, evC2_bool, evS_and, evS_or, evS_tf, evS_ft, ev_t, ev_s, ev_c, evalOp, bin_add, bin_sub, bin_mul, bin_eql, bin_neq, bin_lss, bin_leq, bin_gtr, bin_geq, sbin_eql, sbin_neq, b8, List.map_cons, List.map_nil, PV.rens, PV.ren, if_true, if_false, Bool.false_eq_true, reduceIte, Nat.reduceAdd, Nat.reduceSub, Nat.reduceMul, Nat.reduceEqDiff, Nat.reduceLeDiff, Int.reduceLE, Int.reduceLT, Int.reduceEq, Int.reduceToNat, Int.reduceAdd, Int.reduceSub, Int.reduceNeg, decide_true, decide_false, Bool.not_true, Bool.not_false, Bool.true_and, Bool.false_and, Bool.and_true, Bool.and_false, Bool.or_true, Bool.true_or, Bool.or_false, Bool.false_or, and_self, and_true, true_and, Nat.le_refl, Nat.zero_add, Nat.mul_one, Nat.one_ne_zero, Nat.zero_le, highP, lowP, Option.map_some, Option.map_none, List.drop_zero, List.take_zero, List.length_cons, List.length_nil, List.nil_append, List.append_nil, List.cons_append, fillP, PV.cells?, PV.one, PV.cleans, PV.clean, PV.of?, List.all_cons, List.all_nil, List.take_succ_cons, List.drop_succ_cons, Bool.and_self, Int.natCast_nonneg, Int.toNat_natCast, Int.toNat_zero, PV.of?, Tk.ren, tailP, evL_loop, or_true, true_or, Nat.zero_lt_one, Nat.sub_zero, List.getElem?_cons_zero, List.getElem?_cons_succ, List.set_cons_zero, List.set_cons_succ, List.take_length, PV.cells?, PV.one, c49, hp, h3, h4, hi, hk, hle, hps]
      rfl
end
end Go.Proofs.YtnljpfjoboafoaaDoor.Tab

namespace Go.Proofs.YtnljpfjoboafoaaDoor.Tab
set_option linter.all false
open Go Go.RowKit Go.Proofs.YtnljpfjoboafoaaDoor.Ev
theorem nd_mid {X Y : List Nat} {j : Nat} (h : (X ++ Y).Nodup) (hj : j ∉ X ++ Y) : (X ++ j :: Y).Nodup := (List.perm_middle.nodup_iff).2 (List.nodup_cons.2 ⟨hj, h⟩)
section
variable {H : Hp} {q p : Nat} {s : Spl} {a b c d : PV}
theorem SH.all_lt (h : SH H q p s a b c d) : ∀ k ∈ p :: q :: (a.toks ++ (b.toks ++ (c.toks ++ d.toks))), k < H.length := fun k hk => by
  simp only [List.mem_cons, List.mem_append] at hk
  rcases hk with rfl | rfl | hk | hk | hk | hk
  · exact h.plt
  · exact h.qlt
  · exact h.ra.lt k hk
  · exact h.rb.lt k hk
  · exact h.rc.lt k hk
  · exact h.rd.lt k hk
theorem SH.swap_c {H2 : Hp} {j z : Nat} {s' : Spl} (h : SH H q p s a b c d) (hi : s'.items = s.items) (hs : s'.sent = s.sent) (hd : s'.done = s.done) (hk : ∀ k, k < H.length → k ∉ c.toks → k ≠ p → H2[k]? = H[k]?)
    (hp2 : H2[p]? = some (.cells (cellS a b (.sl (.tok j) z s'.part.length (s'.part.map b8)) d s'))) (hj : H.length ≤ j) (hj2 : H2[j]? = some .tok) (hz : z = 1) : SH H2 q p s' a b (.sl (.tok j) z s'.part.length (s'.part.map b8)) d := by
  obtain ⟨p0, p1, p2, p3, p4, p5, p6, p7⟩ := h.sep
  have hlt := h.all_lt
  refine ⟨hp2, ?_, ?_, .inr ⟨j, z, rfl, .inl hz, hj2⟩, ?_, ?_, ?_⟩
  · rw [hi]; exact h.ra.mono fun k hm => hk k (h.ra.lt k hm) (p5 k hm).2.1 (p1 k hm).1
  · rw [hs]; exact h.rb.mono fun k hm => hk k (h.rb.lt k hm) (p6 k hm).1 (p2 k hm).1
  · rw [hd]; exact h.rd.mono fun k hm => hk k (h.rd.lt k hm) (fun hc => p7 k hc hm) (p4 k hm).1
  · have e : p :: q :: (a.toks ++ (b.toks ++ (c.toks ++ d.toks))) = (p :: q :: (a.toks ++ b.toks)) ++ (c.toks ++ d.toks) := by simp
    have hsub : ((p :: q :: (a.toks ++ b.toks)) ++ d.toks).Sublist (p :: q :: (a.toks ++ (b.toks ++ (c.toks ++ d.toks)))) := by rw [e]; exact (List.Sublist.refl _).append (List.sublist_append_right _ _)
    have := nd_mid (h.nd.sublist hsub) (j := j) (fun hm => by have := hlt j (hsub.subset hm); omega)
    simpa [PV.toks] using this
  · obtain ⟨cs, h1, h2⟩ := h.aq
    exact ⟨cs, by rw [hk q h.qlt (fun hc => (p3 q hc).2 rfl) p0.symm]; exact h1, h2⟩
theorem SH.swap_b {H2 : Hp} {j : Nat} {s' : Spl} (h : SH H q p s a b c d) (hi : s'.items = s.items) (hs : s'.part = s.part) (hd : s'.done = s.done) (hk : ∀ k, k < H.length → k ∉ b.toks → k ≠ p → H2[k]? = H[k]?)
    (hp2 : H2[p]? = some (.cells (cellS a (.row j 0 1 s'.sent.length) c d s'))) (hj : H.length ≤ j) (hj2 : H2[j]? = some (.cells (nCs s'.sent))) (h0 : 0 < s'.sent.length) : SH H2 q p s' a (.row j 0 1 s'.sent.length) c d := by
  obtain ⟨p0, p1, p2, p3, p4, p5, p6, p7⟩ := h.sep
  have hlt := h.all_lt
  refine ⟨hp2, ?_, .inr (.inr ⟨h0, j, rfl, hj2⟩), ?_, ?_, ?_, ?_⟩
  · rw [hi]; exact h.ra.mono fun k hm => hk k (h.ra.lt k hm) (p5 k hm).1 (p1 k hm).1
  · rw [hs]; exact h.rc.mono fun k hm => hk k (h.rc.lt k hm) (fun hc => (p6 k hc).1 hm) (p3 k hm).1
  · rw [hd]; exact h.rd.mono fun k hm => hk k (h.rd.lt k hm) (fun hc => (p6 k hc).2 hm) (p4 k hm).1
  · have e : p :: q :: (a.toks ++ (b.toks ++ (c.toks ++ d.toks))) = (p :: q :: a.toks) ++ (b.toks ++ (c.toks ++ d.toks)) := by simp
    have hsub : ((p :: q :: a.toks) ++ (c.toks ++ d.toks)).Sublist (p :: q :: (a.toks ++ (b.toks ++ (c.toks ++ d.toks)))) := by rw [e]; exact (List.Sublist.refl _).append (List.sublist_append_right _ _)
    have := nd_mid (h.nd.sublist hsub) (j := j) (fun hm => by have := hlt j (hsub.subset hm); omega)
    simpa [PV.toks] using this
  · obtain ⟨cs, h1, h2⟩ := h.aq
    exact ⟨cs, by rw [hk q h.qlt (fun hc => (p2 q hc).2 rfl) p0.symm]; exact h1, h2⟩
theorem SH.swap_a {H2 : Hp} {j : Nat} {s' : Spl} (h : SH H q p s a b c d) (hi : s'.sent = s.sent) (hs : s'.part = s.part) (hd : s'.done = s.done) (hk : ∀ k, k < H.length → k ∉ a.toks → k ≠ p → H2[k]? = H[k]?)
    (hp2 : H2[p]? = some (.cells (cellS (.row j 0 11 s'.items.length) b c d s'))) (hj : H.length ≤ j) (hj2 : H2[j]? = some (.cells (iCs s'.items))) (h0 : 0 < s'.items.length) : SH H2 q p s' (.row j 0 11 s'.items.length) b c d := by
  obtain ⟨p0, p1, p2, p3, p4, p5, p6, p7⟩ := h.sep
  have hlt := h.all_lt
  refine ⟨hp2, .inr (.inr ⟨h0, j, rfl, hj2⟩), ?_, ?_, ?_, ?_, ?_⟩
  · rw [hi]; exact h.rb.mono fun k hm => hk k (h.rb.lt k hm) (fun hc => (p5 k hc).1 hm) (p2 k hm).1
  · rw [hs]; exact h.rc.mono fun k hm => hk k (h.rc.lt k hm) (fun hc => (p5 k hc).2.1 hm) (p3 k hm).1
  · rw [hd]; exact h.rd.mono fun k hm => hk k (h.rd.lt k hm) (fun hc => (p5 k hc).2.2 hm) (p4 k hm).1
  · have e : p :: q :: (a.toks ++ (b.toks ++ (c.toks ++ d.toks))) = [p, q] ++ (a.toks ++ (b.toks ++ (c.toks ++ d.toks))) := by simp
    have hsub : ([p, q] ++ (b.toks ++ (c.toks ++ d.toks))).Sublist (p :: q :: (a.toks ++ (b.toks ++ (c.toks ++ d.toks)))) := by rw [e]; exact (List.Sublist.refl _).append (List.sublist_append_right _ _)
    have := nd_mid (h.nd.sublist hsub) (j := j) (fun hm => by have := hlt j (hsub.subset hm); omega)
    simpa [PV.toks] using this
  · obtain ⟨cs, h1, h2⟩ := h.aq
    exact ⟨cs, by rw [hk q h.qlt (fun hc => (p1 q hc).2 rfl) p0.symm]; exact h1, h2⟩
theorem SH.swap_d {H2 : Hp} {j : Nat} {s' : Spl} (h : SH H q p s a b c d) (hi : s'.items = s.items) (hs : s'.sent = s.sent) (hd : s'.part = s.part) (hk : ∀ k, k < H.length → k ∉ d.toks → k ≠ p → H2[k]? = H[k]?)
    (hp2 : H2[p]? = some (.cells (cellS a b c (.row j 0 1 s'.done.length) s'))) (hj : H.length ≤ j) (hj2 : H2[j]? = some (.cells (nCs s'.done))) (h0 : 0 < s'.done.length) : SH H2 q p s' a b c (.row j 0 1 s'.done.length) := by
  obtain ⟨p0, p1, p2, p3, p4, p5, p6, p7⟩ := h.sep
  have hlt := h.all_lt
  refine ⟨hp2, ?_, ?_, ?_, .inr ⟨h0, j, rfl, hj2⟩, ?_, ?_⟩
  · rw [hi]; exact h.ra.mono fun k hm => hk k (h.ra.lt k hm) (p5 k hm).2.2 (p1 k hm).1
  · rw [hs]; exact h.rb.mono fun k hm => hk k (h.rb.lt k hm) (p6 k hm).2 (p2 k hm).1
  · rw [hd]; exact h.rc.mono fun k hm => hk k (h.rc.lt k hm) (p7 k hm) (p3 k hm).1
  · have e : p :: q :: (a.toks ++ (b.toks ++ (c.toks ++ d.toks))) = (p :: q :: (a.toks ++ (b.toks ++ c.toks))) ++ (d.toks ++ []) := by simp
    have hsub : ((p :: q :: (a.toks ++ (b.toks ++ c.toks))) ++ []).Sublist (p :: q :: (a.toks ++ (b.toks ++ (c.toks ++ d.toks)))) := by rw [e]; exact (List.Sublist.refl _).append (List.sublist_append_right _ _)
    have := nd_mid (h.nd.sublist hsub) (j := j) (fun hm => by have := hlt j (hsub.subset hm); omega)
    simpa [PV.toks] using this
  · obtain ⟨cs, h1, h2⟩ := h.aq
    exact ⟨cs, by rw [hk q h.qlt (fun hc => (p4 q hc).2 rfl) p0.symm]; exact h1, h2⟩
/-- The bytes let go. -/
theorem SH.drop_c {s' : Spl} (h : SH H q p s a b c d) (hi : s'.items = s.items) (hs : s'.sent = s.sent) (hd : s'.done = s.done) (hpt : s'.part = []) : SH (H.set p (.cells (cellS a b (.sl .nil 0 0 []) d s'))) q p s' a b (.sl .nil 0 0 []) d := by
  obtain ⟨p0, p1, p2, p3, p4, p5, p6, p7⟩ := h.sep
  have hk : ∀ k, k ≠ p → (H.set p (.cells (cellS a b (.sl .nil 0 0 []) d s')))[k]? = H[k]? := fun k hk => List.getElem?_set_ne (fun e => hk e.symm)
  refine ⟨List.getElem?_set_self h.plt, ?_, ?_, .inl ⟨hpt, rfl⟩, ?_, ?_, ?_⟩
  · rw [hi]; exact h.ra.mono fun k hm => hk k (p1 k hm).1
  · rw [hs]; exact h.rb.mono fun k hm => hk k (p2 k hm).1
  · rw [hd]; exact h.rd.mono fun k hm => hk k (p4 k hm).1
  · have e : p :: q :: (a.toks ++ (b.toks ++ (c.toks ++ d.toks))) = (p :: q :: (a.toks ++ b.toks)) ++ (c.toks ++ d.toks) := by simp
    have hsub : ((p :: q :: (a.toks ++ b.toks)) ++ d.toks).Sublist (p :: q :: (a.toks ++ (b.toks ++ (c.toks ++ d.toks)))) := by rw [e]; exact (List.Sublist.refl _).append (List.sublist_append_right _ _)
    have := h.nd.sublist hsub
    simpa [PV.toks] using this
  · obtain ⟨cs, h1, h2⟩ := h.aq
    exact ⟨cs, by rw [hk q p0.symm]; exact h1, h2⟩
def chunkS (s : Spl) (r : Rc) : Option Spl :=
  if (comesS s r.number && decide ((1 : Int) ≤ r.data.length) && decide ((r.data.length : Int) ≤ 48)) = true then
    (if r.offset = 0 then some { s with of_ := r.number, part := r.data }
    else if s.of_ = r.number ∧ r.offset = s.part.length ∧ (r.data.length : Int) ≤ 5000 - s.part.length then some { s with part := s.part ++ r.data } else none)
  else none
theorem T_chunk {r : Rc} {cs : List PV} (h : SH H q p s a b c d) (hr : RecR r cs) (hf : Fits r) (hl : s.done.length ≤ 1000000) (hpt : s.part.length ≤ 1000000) :
    ∃ H', T 38 [.ptr p 0, .agg cs] H = some (.bool (chunkS s r).isSome, H') ∧ SHx H' q p ((chunkS s r).getD s) ∧ H.length ≤ H'.length := by
  obtain ⟨x1, x2, x3⟩ := hr.box
  obtain ⟨ra, rb, rc, rd, rfl, _, _, _, hrd⟩ := hr
  obtain ⟨f1, f2, f3, f4⟩ := hf
  have c42 := T_cloneB hrd (by omega)
  have d3 := hrd.clean.2.2
  obtain ⟨td, zd, rfl, htd, hzd⟩ := hrd
  obtain ⟨H1, c50, ⟨a1, b1, c1, d1, h1⟩, hlen⟩ := T_comes h r.number hl
  have hpl := h.plt
  have hql := h.qlt
  have hp1 := h1.plt
  have hp := h1.at_
  unfold cellS at hp
  unfold chunkS
  cases hw : comesS s r.number with
  | false =>
    rw [hw] at c50
    refine fin_bool (k := 0) (F := l38) rfl rfl rfl rfl rfl ?_ h1 hlen hpl hql
    show evL T 0 q38 _ _ = _
    unfold q38
    rw [evL_op, bx (by rfl) x1 x2, evK_some]
    simp only [evL_op, evL_sel, evL_nx, evL_exit, evL_ret, evL_join, evL_block, evL_cond, evK_some, evJ_nx, evJ_rt, evJ_ex, evB_nx, evB_rt, evB_ex, evC2_bool, evS_and, evS_or, evS_tf, evS_ft, ev_t, ev_s, ev_c, evalOp, bin_add, bin_sub, bin_mul, bin_eql, bin_neq, bin_lss, bin_leq, bin_gtr, bin_geq, sbin_eql, sbin_neq, b8, List.map_cons, List.map_nil, PV.rens, PV.ren, if_true, if_false, Bool.false_eq_true, reduceIte, Nat.reduceAdd, Nat.reduceSub, Nat.reduceMul, Nat.reduceEqDiff, Nat.reduceLeDiff, Int.reduceLE, Int.reduceLT, Int.reduceEq, Int.reduceToNat, Int.reduceAdd, Int.reduceSub, Int.reduceNeg, decide_true, decide_false, Bool.not_true, Bool.not_false, Bool.true_and, Bool.false_and, Bool.and_true, Bool.and_false, Bool.or_true, Bool.true_or, Bool.or_false, Bool.false_or, and_self, and_true, true_and, Nat.le_refl, Nat.zero_add, Nat.mul_one, Nat.one_ne_zero, Nat.zero_le, highP, lowP, Option.map_some, Option.map_none, List.drop_zero, List.take_zero, List.length_cons, List.length_nil, List.nil_append, List.append_nil, List.cons_append, fillP, PV.cells?, PV.one, PV.cleans, PV.clean, PV.of?, List.all_cons, List.all_nil, List.take_succ_cons, List.drop_succ_cons, Bool.and_self, Int.natCast_nonneg, Int.toNat_natCast, Int.toNat_zero, PV.of?, Tk.ren, tailP, evL_loop, or_true, true_or, Nat.zero_lt_one, Nat.sub_zero, List.getElem?_cons_zero, List.getElem?_cons_succ, List.set_cons_zero, List.set_cons_succ, List.take_length, c50]
    rfl
  | true =>
    rw [hw] at c50
    by_cases g1 : (1 : Int) ≤ r.data.length
    · have g1' : ¬ (r.data.length : Int) < 1 := by omega
      by_cases g2 : (r.data.length : Int) ≤ 48
      · have g2' : ¬ (48 : Int) < r.data.length := by omega
        simp only [Bool.true_and, decide_eq_true g1, decide_eq_true g2, if_true]
        obtain rfl : zd = 1 := hzd.resolve_right (by omega)
        obtain rfl : td = .no := htd.resolve_right (fun h => by have := h.2; omega)
        by_cases g3 : r.offset = 0
        · rw [if_pos g3]
          have hpa : (H1 ++ [Ob.tok])[p]? = _ := (List.getElem?_append_left hp1).trans hp
          have hps : ∀ x, ((H1 ++ [Ob.tok]).set p x)[p]? = some x := fun x => List.getElem?_set_self (by simp; omega)
          have hS : SH ((H1 ++ [Ob.tok]).set p (.cells (cellS a1 b1 (.sl (.tok H1.length) 1 r.data.length (r.data.map b8)) d1 { s with of_ := r.number, part := r.data }))) q p { s with of_ := r.number, part := r.data } a1 b1 (.sl (.tok H1.length) 1 r.data.length (r.data.map b8)) d1 :=
            h1.swap_c rfl rfl rfl (fun k hk _ hkp => by rw [List.getElem?_set_ne hkp.symm, List.getElem?_append_left hk]) (hps _) (Nat.le_refl _) (by rw [List.getElem?_set_ne (by omega)]; simp) rfl
          refine fin_bool (k := 0) (F := l38) rfl rfl rfl rfl rfl ?_ hS (by simp; omega) hpl hql
          show evL T 0 q38 _ _ = _
          unfold q38
          rw [evL_op, bx (by rfl) x1 x2, evK_some]
          simp only [evL_op, evL_sel, evL_nx, evL_exit, evL_ret, evL_join, evL_block, evL_cond, evK_some, evJ_nx, evJ_rt, evJ_ex, evB_nx, evB_rt, evB_ex, evC2_bool, evS_and, evS_or, evS_tf, evS_ft, ev_t, ev_s, ev_c, evalOp, bin_add, bin_sub, bin_mul, bin_eql, bin_neq, bin_lss, bin_leq, bin_gtr, bin_geq, sbin_eql, sbin_neq, b8, List.map_cons, List.map_nil, PV.rens, PV.ren, if_true, if_false, Bool.false_eq_true, reduceIte, Nat.reduceAdd, Nat.reduceSub, Nat.reduceMul, Nat.reduceEqDiff, Nat.reduceLeDiff, Int.reduceLE, Int.reduceLT, Int.reduceEq, Int.reduceToNat, Int.reduceAdd, Int.reduceSub, Int.reduceNeg, decide_true, decide_false, Bool.not_true, Bool.not_false, Bool.true_and, Bool.false_and, Bool.and_true, Bool.and_false, Bool.or_true, Bool.true_or, Bool.or_false, Bool.false_or, and_self, and_true, true_and, Nat.le_refl, Nat.zero_add, Nat.mul_one, Nat.one_ne_zero, Nat.zero_le, highP, lowP, Option.map_some, Option.map_none, List.drop_zero, List.take_zero, List.length_cons, List.length_nil, List.nil_append, List.append_nil, List.cons_append, fillP, PV.cells?, PV.one, PV.cleans, PV.clean, PV.of?, List.all_cons, List.all_nil, List.take_succ_cons, List.drop_succ_cons, Bool.and_self, Int.natCast_nonneg, Int.toNat_natCast, Int.toNat_zero, PV.of?, Tk.ren, tailP, evL_loop, or_true, true_or, Nat.zero_lt_one, Nat.sub_zero, List.getElem?_cons_zero, List.getElem?_cons_succ, List.set_cons_zero, List.set_cons_succ, List.take_length, PV.rens, PV.ren, PV.cells?, PV.one, shift, c50, g1', g2', g3, c42, hpa, hps, List.set_set, Nat.add_zero]
          rfl
        · rw [if_neg g3]
          by_cases g4 : s.of_ = r.number
          · by_cases g5 : r.offset = s.part.length
            · have hw5 : IntKind.i64.wrap (5000 - (s.part.length : Int)) = 5000 - s.part.length := wr (by omega) (by omega)
              rcases h1.rc with ⟨h0, rfl⟩ | ⟨k, z, rfl, hz, hk⟩
              · rw [h0] at g5; exact absurd g5 g3
              · have hz1 : z = 1 := by
                  rcases hz with rfl | ⟨_, h0⟩
                  · rfl
                  · rw [h0] at g5; exact absurd g5 g3
                subst hz1
                have g3' : ¬ (s.part.length : Int) = 0 := fun e => g3 (by omega)
                by_cases g6 : (r.data.length : Int) ≤ 5000 - s.part.length
                · rw [if_pos ⟨g4, g5, g6⟩]
                  have g6' : ¬ (5000 - (s.part.length : Int)) < r.data.length := by omega
                  have hkl := (List.getElem?_eq_some_iff.1 hk).1
                  have hkp : k ≠ p := (h1.sep.2.2.2.1 k (by simp [PV.toks])).1
                  have hpa : (H1.set k .dead ++ [Ob.tok])[p]? = _ := (List.getElem?_append_left (by simpa using hp1)).trans ((List.getElem?_set_ne hkp).trans hp)
                  have hrm : s.part.length + r.data.length ≤ roomMax := by unfold roomMax; omega
                  have hS : SH ((H1.set k .dead ++ [Ob.tok]).set p (.cells (cellS a1 b1 (.sl (.tok H1.length) 1 (s.part ++ r.data).length ((s.part ++ r.data).map b8)) d1 { s with part := s.part ++ r.data }))) q p { s with part := s.part ++ r.data } a1 b1 (.sl (.tok H1.length) 1 (s.part ++ r.data).length ((s.part ++ r.data).map b8)) d1 :=
                    h1.swap_c (s' := { s with part := s.part ++ r.data }) rfl rfl rfl (fun j hj hjc hjp => by
                      rw [List.getElem?_set_ne hjp.symm, List.getElem?_append_left (by simpa using hj), List.getElem?_set_ne (fun e => hjc (by simp [PV.toks, e]))]) (List.getElem?_set_self (by simp; omega)) (Nat.le_refl _) (by rw [List.getElem?_set_ne (by omega)]; simp) rfl
                  refine fin_bool (k := 0) (F := l38) rfl rfl rfl rfl rfl ?_ hS (by simp; omega) hpl hql
                  show evL T 0 q38 _ _ = _
                  unfold q38
                  rw [evL_op, bx (by rfl) x1 x2, evK_some]
                  simp only [evL_op, evL_sel, evL_nx, evL_exit, evL_ret, evL_join, evL_block, evL_cond, evK_some, evJ_nx, evJ_rt, evJ_ex, evB_nx, evB_rt, evB_ex, evC2_bool, evS_and, evS_or, evS_tf, evS_ft, ev_t, ev_s, ev_c, evalOp, bin_add, bin_sub, bin_mul, bin_eql, bin_neq, bin_lss, bin_leq, bin_gtr, bin_geq, sbin_eql, sbin_neq, b8, List.map_cons, List.map_nil, PV.rens, PV.ren, if_true, if_false, Bool.false_eq_true, reduceIte, Nat.reduceAdd, Nat.reduceSub, Nat.reduceMul, Nat.reduceEqDiff, Nat.reduceLeDiff, Int.reduceLE, Int.reduceLT, Int.reduceEq, Int.reduceToNat, Int.reduceAdd, Int.reduceSub, Int.reduceNeg, decide_true, decide_false, Bool.not_true, Bool.not_false, Bool.true_and, Bool.false_and, Bool.and_true, Bool.and_false, Bool.or_true, Bool.true_or, Bool.or_false, Bool.false_or, and_self, and_true, true_and, Nat.le_refl, Nat.zero_add, Nat.mul_one, Nat.one_ne_zero, Nat.zero_le, highP, lowP, Option.map_some, Option.map_none, List.drop_zero, List.take_zero, List.length_cons, List.length_nil, List.nil_append, List.append_nil, List.cons_append, fillP, PV.cells?, PV.one, PV.cleans, PV.clean, PV.of?, List.all_cons, List.all_nil, List.take_succ_cons, List.drop_succ_cons, Bool.and_self, Int.natCast_nonneg, Int.toNat_natCast, Int.toNat_zero, PV.of?, Tk.ren, tailP, evL_loop, or_true, true_or, Nat.zero_lt_one, Nat.sub_zero, List.getElem?_cons_zero, List.getElem?_cons_succ, List.set_cons_zero, List.set_cons_succ, List.take_length, PV.rens, PV.ren, PV.cells?, PV.one, c50, g1', g2', g3', g4, g5, g6', hw5, hp, hk, hrm, hpa, List.set_set, Nat.add_zero, cellS, List.length_append, List.map_append]
                  rfl
                · rw [if_neg (fun h => g6 h.2.2)]
                  have g6' : (5000 - (s.part.length : Int)) < r.data.length := by omega
                  refine fin_bool (k := 0) (F := l38) rfl rfl rfl rfl rfl ?_ h1 hlen hpl hql
                  show evL T 0 q38 _ _ = _
                  unfold q38
                  rw [evL_op, bx (by rfl) x1 x2, evK_some]
                  simp only [evL_op, evL_sel, evL_nx, evL_exit, evL_ret, evL_join, evL_block, evL_cond, evK_some, evJ_nx, evJ_rt, evJ_ex, evB_nx, evB_rt, evB_ex, evC2_bool, evS_and, evS_or, evS_tf, evS_ft, ev_t, ev_s, ev_c, evalOp, bin_add, bin_sub, bin_mul, bin_eql, bin_neq, bin_lss, bin_leq, bin_gtr, bin_geq, sbin_eql, sbin_neq, b8, List.map_cons, List.map_nil, PV.rens, PV.ren, if_true, if_false, Bool.false_eq_true, reduceIte, Nat.reduceAdd, Nat.reduceSub, Nat.reduceMul, Nat.reduceEqDiff, Nat.reduceLeDiff, Int.reduceLE, Int.reduceLT, Int.reduceEq, Int.reduceToNat, Int.reduceAdd, Int.reduceSub, Int.reduceNeg, decide_true, decide_false, Bool.not_true, Bool.not_false, Bool.true_and, Bool.false_and, Bool.and_true, Bool.and_false, Bool.or_true, Bool.true_or, Bool.or_false, Bool.false_or, and_self, and_true, true_and, Nat.le_refl, Nat.zero_add, Nat.mul_one, Nat.one_ne_zero, Nat.zero_le, highP, lowP, Option.map_some, Option.map_none, List.drop_zero, List.take_zero, List.length_cons, List.length_nil, List.nil_append, List.append_nil, List.cons_append, fillP, PV.cells?, PV.one, PV.cleans, PV.clean, PV.of?, List.all_cons, List.all_nil, List.take_succ_cons, List.drop_succ_cons, Bool.and_self, Int.natCast_nonneg, Int.toNat_natCast, Int.toNat_zero, PV.of?, Tk.ren, tailP, evL_loop, or_true, true_or, Nat.zero_lt_one, Nat.sub_zero, List.getElem?_cons_zero, List.getElem?_cons_succ, List.set_cons_zero, List.set_cons_succ, List.take_length, c50, g1', g2', g3', g4, g5, g6', hw5, hp]
                  rfl
            · rw [if_neg (fun h => g5 h.2.1)]
              refine fin_bool (k := 0) (F := l38) rfl rfl rfl rfl rfl ?_ h1 hlen hpl hql
              show evL T 0 q38 _ _ = _
              unfold q38
              rw [evL_op, bx (by rfl) x1 x2, evK_some]
              rcases h1.rc with ⟨h0, rfl⟩ | ⟨k, z, rfl, hz, hk⟩
              · rw [h0, List.length_nil] at g5
                simp only [evL_op, evL_sel, evL_nx, evL_exit, evL_ret, evL_join, evL_block, evL_cond, evK_some, evJ_nx, evJ_rt, evJ_ex, evB_nx, evB_rt, evB_ex, evC2_bool, evS_and, evS_or, evS_tf, evS_ft, ev_t, ev_s, ev_c, evalOp, bin_add, bin_sub, bin_mul, bin_eql, bin_neq, bin_lss, bin_leq, bin_gtr, bin_geq, sbin_eql, sbin_neq, b8, List.map_cons, List.map_nil, PV.rens, PV.ren, if_true, if_false, Bool.false_eq_true, reduceIte, Nat.reduceAdd, Nat.reduceSub, Nat.reduceMul, Nat.reduceEqDiff, Nat.reduceLeDiff, Int.reduceLE, Int.reduceLT, Int.reduceEq, Int.reduceToNat, Int.reduceAdd, Int.reduceSub, Int.reduceNeg, decide_true, decide_false, Bool.not_true, Bool.not_false, Bool.true_and, Bool.false_and, Bool.and_true, Bool.and_false, Bool.or_true, Bool.true_or, Bool.or_false, Bool.false_or, and_self, and_true, true_and, Nat.le_refl, Nat.zero_add, Nat.mul_one, Nat.one_ne_zero, Nat.zero_le, highP, lowP, Option.map_some, Option.map_none, List.drop_zero, List.take_zero, List.length_cons, List.length_nil, List.nil_append, List.append_nil, List.cons_append, fillP, PV.cells?, PV.one, PV.cleans, PV.clean, PV.of?, List.all_cons, List.all_nil, List.take_succ_cons, List.drop_succ_cons, Bool.and_self, Int.natCast_nonneg, Int.toNat_natCast, Int.toNat_zero, PV.of?, Tk.ren, tailP, evL_loop, or_true, true_or, Nat.zero_lt_one, Nat.sub_zero, List.getElem?_cons_zero, List.getElem?_cons_succ, List.set_cons_zero, List.set_cons_succ, List.take_length, c50, g1', g2', g3, g4, g5, hp]
                rfl
              · simp only [evL_op, evL_sel, evL_nx, evL_exit, evL_ret, evL_join, evL_block, evL_cond, evK_some, evJ_nx, evJ_rt, evJ_ex, evB_nx, evB_rt, evB_ex, evC2_bool, evS_and, evS_or, evS_tf, evS_ft, ev_t, ev_s, ev_c, evalOp, bin_add, bin_sub, bin_mul, bin_eql, bin_neq, bin_lss, bin_leq, bin_gtr, bin_geq, sbin_eql, sbin_neq, b8, List.map_cons, List.map_nil, PV.rens, PV.ren, if_true, if_false, Bool.false_eq_true, reduceIte, Nat.reduceAdd, Nat.reduceSub, Nat.reduceMul, Nat.reduceEqDiff, Nat.reduceLeDiff, Int.reduceLE, Int.reduceLT, Int.reduceEq, Int.reduceToNat, Int.reduceAdd, Int.reduceSub, Int.reduceNeg, decide_true, decide_false, Bool.not_true, Bool.not_false, Bool.true_and, Bool.false_and, Bool.and_true, Bool.and_false, Bool.or_true, Bool.true_or, Bool.or_false, Bool.false_or, and_self, and_true, true_and, Nat.le_refl, Nat.zero_add, Nat.mul_one, Nat.one_ne_zero, Nat.zero_le, highP, lowP, Option.map_some, Option.map_none, List.drop_zero, List.take_zero, List.length_cons, List.length_nil, List.nil_append, List.append_nil, List.cons_append, fillP, PV.cells?, PV.one, PV.cleans, PV.clean, PV.of?, List.all_cons, List.all_nil, List.take_succ_cons, List.drop_succ_cons, Bool.and_self, Int.natCast_nonneg, Int.toNat_natCast, Int.toNat_zero, PV.of?, Tk.ren, tailP, evL_loop, or_true, true_or, Nat.zero_lt_one, Nat.sub_zero, List.getElem?_cons_zero, List.getElem?_cons_succ, List.set_cons_zero, List.set_cons_succ, List.take_length, c50, g1', g2', g3, g4, g5, hp]
                rfl
          · rw [if_neg (fun h => g4 h.1)]
            refine fin_bool (k := 0) (F := l38) rfl rfl rfl rfl rfl ?_ h1 hlen hpl hql
            show evL T 0 q38 _ _ = _
            unfold q38
            rw [evL_op, bx (by rfl) x1 x2, evK_some]
            simp only [evL_op, evL_sel, evL_nx, evL_exit, evL_ret, evL_join, evL_block, evL_cond, evK_some, evJ_nx, evJ_rt, evJ_ex, evB_nx, evB_rt, evB_ex, evC2_bool, evS_and, evS_or, evS_tf, evS_ft, ev_t, ev_s, ev_c, evalOp, bin_add, bin_sub, bin_mul, bin_eql, bin_neq, bin_lss, bin_leq, bin_gtr, bin_geq, sbin_eql, sbin_neq, b8, List.map_cons, List.map_nil, PV.rens, PV.ren, if_true, if_false, Bool.false_eq_true, reduceIte, Nat.reduceAdd, Nat.reduceSub, Nat.reduceMul, Nat.reduceEqDiff, Nat.reduceLeDiff, Int.reduceLE, Int.reduceLT, Int.reduceEq, Int.reduceToNat, Int.reduceAdd, Int.reduceSub, Int.reduceNeg, decide_true, decide_false, Bool.not_true, Bool.not_false, Bool.true_and, Bool.false_and, Bool.and_true, Bool.and_false, Bool.or_true, Bool.true_or, Bool.or_false, Bool.false_or, and_self, and_true, true_and, Nat.le_refl, Nat.zero_add, Nat.mul_one, Nat.one_ne_zero, Nat.zero_le, highP, lowP, Option.map_some, Option.map_none, List.drop_zero, List.take_zero, List.length_cons, List.length_nil, List.nil_append, List.append_nil, List.cons_append, fillP, PV.cells?, PV.one, PV.cleans, PV.clean, PV.of?, List.all_cons, List.all_nil, List.take_succ_cons, List.drop_succ_cons, Bool.and_self, Int.natCast_nonneg, Int.toNat_natCast, Int.toNat_zero, PV.of?, Tk.ren, tailP, evL_loop, or_true, true_or, Nat.zero_lt_one, Nat.sub_zero, List.getElem?_cons_zero, List.getElem?_cons_succ, List.set_cons_zero, List.set_cons_succ, List.take_length, c50, g1', g2', g3, g4, hp]
            rfl
      · have g2' : (48 : Int) < r.data.length := by omega
        simp only [Bool.true_and, decide_eq_true g1, decide_eq_false g2, Bool.false_eq_true, if_false]
        refine fin_bool (k := 0) (F := l38) rfl rfl rfl rfl rfl ?_ h1 hlen hpl hql
        show evL T 0 q38 _ _ = _
        unfold q38
        rw [evL_op, bx (by rfl) x1 x2, evK_some]
        simp only [evL_op, evL_sel, evL_nx, evL_exit, evL_ret, evL_join, evL_block, evL_cond, evK_some, evJ_nx, evJ_rt, evJ_ex, evB_nx, evB_rt, evB_ex, evC2_bool, evS_and, evS_or, evS_tf, evS_ft, ev_t, ev_s, ev_c, evalOp, bin_add, bin_sub, bin_mul, bin_eql, bin_neq, bin_lss, bin_leq, bin_gtr, bin_geq, sbin_eql, sbin_neq, b8, List.map_cons, List.map_nil, PV.rens, PV.ren, if_true, if_false, Bool.false_eq_true, reduceIte, Nat.reduceAdd, Nat.reduceSub, Nat.reduceMul, Nat.reduceEqDiff, Nat.reduceLeDiff, Int.reduceLE, Int.reduceLT, Int.reduceEq, Int.reduceToNat, Int.reduceAdd, Int.reduceSub, Int.reduceNeg, decide_true, decide_false, Bool.not_true, Bool.not_false, Bool.true_and, Bool.false_and, Bool.and_true, Bool.and_false, Bool.or_true, Bool.true_or, Bool.or_false, Bool.false_or, and_self, and_true, true_and, Nat.le_refl, Nat.zero_add, Nat.mul_one, Nat.one_ne_zero, Nat.zero_le, highP, lowP, Option.map_some, Option.map_none, List.drop_zero, List.take_zero, List.length_cons, List.length_nil, List.nil_append, List.append_nil, List.cons_append, fillP, PV.cells?, PV.one, PV.cleans, PV.clean, PV.of?, List.all_cons, List.all_nil, List.take_succ_cons, List.drop_succ_cons, Bool.and_self, Int.natCast_nonneg, Int.toNat_natCast, Int.toNat_zero, PV.of?, Tk.ren, tailP, evL_loop, or_true, true_or, Nat.zero_lt_one, Nat.sub_zero, List.getElem?_cons_zero, List.getElem?_cons_succ, List.set_cons_zero, List.set_cons_succ, List.take_length, c50, g1', g2']
        rfl
    · have g1' : (r.data.length : Int) < 1 := by omega
      simp only [Bool.true_and, decide_eq_false g1, Bool.false_and, Bool.false_eq_true, if_false]
      refine fin_bool (k := 0) (F := l38) rfl rfl rfl rfl rfl ?_ h1 hlen hpl hql
      show evL T 0 q38 _ _ = _
      unfold q38
      rw [evL_op, bx (by rfl) x1 x2, evK_some]
      simp only [evL_op, evL_sel, evL_nx, evL_exit, evL_ret, evL_join, evL_block, evL_cond, evK_some, evJ_nx, evJ_rt, evJ_ex, evB_nx, evB_rt, evB_ex, evC2_bool, evS_and, evS_or, evS_tf, evS_ft, ev_t, ev_s, ev_c, evalOp, bin_add, bin_sub, bin_mul, bin_eql, bin_neq, bin_lss, bin_leq, bin_gtr, bin_geq, sbin_eql, sbin_neq, b8, List.map_cons, List.map_nil, PV.rens, PV.ren, if_true, if_false, Bool.false_eq_true, reduceIte, Nat.reduceAdd, Nat.reduceSub, Nat.reduceMul, Nat.reduceEqDiff, Nat.reduceLeDiff, Int.reduceLE, Int.reduceLT, Int.reduceEq, Int.reduceToNat, Int.reduceAdd, Int.reduceSub, Int.reduceNeg, decide_true, decide_false, Bool.not_true, Bool.not_false, Bool.true_and, Bool.false_and, Bool.and_true, Bool.and_false, Bool.or_true, Bool.true_or, Bool.or_false, Bool.false_or, and_self, and_true, true_and, Nat.le_refl, Nat.zero_add, Nat.mul_one, Nat.one_ne_zero, Nat.zero_le, highP, lowP, Option.map_some, Option.map_none, List.drop_zero, List.take_zero, List.length_cons, List.length_nil, List.nil_append, List.append_nil, List.cons_append, fillP, PV.cells?, PV.one, PV.cleans, PV.clean, PV.of?, List.all_cons, List.all_nil, List.take_succ_cons, List.drop_succ_cons, Bool.and_self, Int.natCast_nonneg, Int.toNat_natCast, Int.toNat_zero, PV.of?, Tk.ren, tailP, evL_loop, or_true, true_or, Nat.zero_lt_one, Nat.sub_zero, List.getElem?_cons_zero, List.getElem?_cons_succ, List.set_cons_zero, List.set_cons_succ, List.take_length, c50, g1']
      rfl
end
end Go.Proofs.YtnljpfjoboafoaaDoor.Tab

namespace Go.Proofs.YtnljpfjoboafoaaDoor.Tab
set_option linter.all false
open Go Go.RowKit Go.Proofs.YtnljpfjoboafoaaDoor.Ev
theorem evw1 {i : Nat} (h : i ≤ 1000000) : IntKind.i64.wrap ((i : Int) + 1) = ((i + 1 : Nat) : Int) := by rw [wr (by omega) (by omega)]; omega
section
variable {H : Hp} {q p : Nat} {s : Spl} {a b c d : PV}
def sentF (n : Int) (x : Itm) : Itm := if x.pack = n then { x with state := 3 } else x
def doneTo (f : Itm → Itm) (l : List Itm) (i : Nat) : List Itm := (l.take i).map f ++ l.drop i
theorem doneTo_len (f : Itm → Itm) (l : List Itm) (i : Nat) : (doneTo f l i).length = l.length := by simp [doneTo]; omega
theorem doneTo_get (f : Itm → Itm) {l : List Itm} {i : Nat} (h : i < l.length) : ∃ h' : i < (doneTo f l i).length, (doneTo f l i)[i] = l[i] := by
  refine ⟨by rw [doneTo_len]; exact h, ?_⟩
  unfold doneTo
  rw [List.getElem_append_right (by simp; omega)]
  simp [Nat.min_eq_left (Nat.le_of_lt h)]
theorem doneTo_succ (f : Itm → Itm) {l : List Itm} {i : Nat} (h : i < l.length) : doneTo f l (i + 1) = (doneTo f l i).set i (f l[i]) := by
  unfold doneTo
  have hl : ((l.take i).map f).length = i := by simp [Nat.min_eq_left (Nat.le_of_lt h)]
  rw [List.take_succ_eq_append_getElem h, List.map_append, List.set_append_right _ _ (by omega), hl, List.drop_eq_getElem_cons h, Nat.sub_self, List.append_assoc]
  rfl
theorem set_same (f : Itm → Itm) {l : List Itm} {i : Nat} (h : i < l.length) (he : f l[i] = l[i]) : doneTo f l (i + 1) = doneTo f l i := by
  obtain ⟨h1, h2⟩ := doneTo_get f h
  rw [doneTo_succ f h, he]
  conv => lhs; arg 3; rw [← h2]
  exact List.set_getElem_self h1
theorem sent_loop {cs : List PV} (num : Int) (hc : (cs.drop 12).take 1 = [.int .i64 num]) {n : Nat} (h : SHx H q p s) (hn : n ≤ H.length) (hp : p < n) (hq : q < n) (hl : s.items.length ≤ 1000000) (k0 kk : Nat) (hkk : s.items.length < kk) :
    ∃ H', loopL n (evL T k0 q36_1) kk [.ptr p 0, .ep cs 0, .int .i64 s.items.length, .int .i64 0] H = some (.ex 0, [.ptr p 0, .ep cs 0], H') ∧ SHx H' q p { s with items := s.items.map (sentF num) } ∧ n ≤ H'.length := by
  have he : ∀ (z : Nat), ∀ x ∈ [PV.ptr p 0, .ep cs 0, .int .i64 s.items.length, .int .i64 z], flat x = true ∨ x = .ptr p 0 ∨ x = .ptr q 0 := by
    intro z x hx
    simp only [List.mem_cons, List.not_mem_nil, or_false] at hx
    rcases hx with rfl | rfl | rfl | rfl
    · exact .inr (.inl rfl)
    · exact .inl rfl
    · exact .inl rfl
    · exact .inl rfl
  obtain ⟨a0, b0, c0, d0, h0⟩ := h
  obtain ⟨H0, hh0, hs0, hl0⟩ := h0.head (env := [PV.ptr p 0, .ep cs 0, .int .i64 s.items.length, .int .i64 (0 : Nat)]) hn hp hq (he 0)
  obtain ⟨r, hr, H', rfl, hS, hL⟩ := loop_post (n := n) (body := evL T k0 q36_1) (σ := Nat × Hp) (fun σ => [.ptr p 0, .ep cs 0, .int .i64 s.items.length, .int .i64 σ.1]) (fun σ => σ.2) (fun σ => s.items.length - σ.1)
    (fun σ => σ.1 ≤ s.items.length ∧ SHx σ.2 q p { s with items := doneTo (sentF num) s.items σ.1 } ∧ n ≤ σ.2.length)
    (fun r => ∃ H', r = (.ex 0, [.ptr p 0, .ep cs 0], H') ∧ SHx H' q p { s with items := s.items.map (sentF num) } ∧ n ≤ H'.length) (by
    rintro ⟨i, H1⟩ ⟨hi, ⟨a1, b1, c1, d1, h1⟩, hl1⟩
    dsimp only at hi h1 hl1 ⊢
    rcases Nat.lt_or_ge i s.items.length with hlt | hge
    · obtain ⟨g1, g2⟩ := doneTo_get (sentF num) hlt
      have hpp := h1.at_
      unfold cellS at hpp
      rcases h1.ra with ⟨h0, rfl⟩ | ⟨h0, k, z, rfl, hz, hk⟩ | ⟨h0, k, rfl, hk⟩
      · rw [doneTo_len] at h0; omega
      · rw [doneTo_len] at h0; omega
      · have f1 : (i : Int) < s.items.length := by omega
        have f1' : (i : Int) < (doneTo (sentF num) s.items i).length := by rw [doneTo_len]; exact f1
        have w1 := evw1 (show i ≤ 1000000 by omega)
        have f2 := pk_at g1
        dsimp only at hk hpp
        by_cases hpk : s.items[i].pack = num
        · have hps := put_st g1 3
          have hle : i * 11 + 9 + 1 ≤ (iCs (doneTo (sentF num) s.items i)).length := by rw [iCs_len]; omega
          have hS := h1.row (l := (doneTo (sentF num) s.items i).set i { (doneTo (sentF num) s.items i)[i] with state := 3 }) (by simp) (by simp; omega)
          have hst : doneTo (sentF num) s.items (i + 1) = (doneTo (sentF num) s.items i).set i { (doneTo (sentF num) s.items i)[i] with state := 3 } := by rw [doneTo_succ _ hlt, g2]; unfold sentF; rw [if_pos hpk]
          obtain ⟨H2, e1, e2, e3⟩ := hS.head (env := [PV.ptr p 0, .ep cs 0, .int .i64 s.items.length, .int .i64 ((i + 1 : Nat) : Int)]) (by simpa using hl1) hp hq (he (i + 1))
          refine .inr ⟨(i + 1, H2), [.ptr p 0, .ep cs 0, .int .i64 s.items.length, .int .i64 ((i + 1 : Nat) : Int)], _, ?_, e1, ⟨hlt, by dsimp only; rw [hst]; exact e2, e3⟩, by dsimp only; omega⟩
          rw [g2] at f2 hps
          simp only [q36_1, q36_0, evL_op, evL_sel, evL_nx, evL_exit, evL_ret, evL_join, evL_block, evL_cond, evK_some, evJ_nx, evJ_rt, evJ_ex, evB_nx, evB_rt, evB_ex, evC2_bool, evS_and, evS_or, evS_tf, evS_ft, ev_t, ev_s, ev_c, evalOp, bin_add, bin_sub, bin_mul, bin_eql, bin_neq, bin_lss, bin_leq, bin_gtr, bin_geq, sbin_eql, sbin_neq, b8, List.map_cons, List.map_nil, PV.rens, PV.ren, if_true, if_false, Bool.false_eq_true, reduceIte, Nat.reduceAdd, Nat.reduceSub, Nat.reduceMul, Nat.reduceEqDiff, Nat.reduceLeDiff, Int.reduceLE, Int.reduceLT, Int.reduceEq, Int.reduceToNat, Int.reduceAdd, Int.reduceSub, Int.reduceNeg, decide_true, decide_false, Bool.not_true, Bool.not_false, Bool.true_and, Bool.false_and, Bool.and_true, Bool.and_false, Bool.or_true, Bool.true_or, Bool.or_false, Bool.false_or, and_self, and_true, true_and, Nat.le_refl, Nat.zero_add, Nat.mul_one, Nat.one_ne_zero, Nat.zero_le, highP, lowP, Option.map_some, Option.map_none, List.drop_zero, List.take_zero, List.length_cons, List.length_nil, List.nil_append, List.append_nil, List.cons_append, fillP, PV.cells?, PV.one, PV.cleans, PV.clean, PV.of?, List.all_cons, List.all_nil, List.take_succ_cons, List.drop_succ_cons, Bool.and_self, Int.natCast_nonneg, Int.toNat_natCast, Int.toNat_zero, PV.of?, Tk.ren, tailP, evL_loop, or_true, true_or, Nat.zero_lt_one, Nat.sub_zero, List.getElem?_cons_zero, List.getElem?_cons_succ, List.set_cons_zero, List.set_cons_succ, List.take_length, hpp, f1, f1', hk, f2, hc, hpk, hle, hps, w1]
          rw [g2, hpk]
        · have hst : doneTo (sentF num) s.items (i + 1) = doneTo (sentF num) s.items i := set_same _ hlt (by unfold sentF; rw [if_neg hpk])
          obtain ⟨H2, e1, e2, e3⟩ := h1.head (env := [PV.ptr p 0, .ep cs 0, .int .i64 s.items.length, .int .i64 ((i + 1 : Nat) : Int)]) hl1 hp hq (he (i + 1))
          refine .inr ⟨(i + 1, H2), [.ptr p 0, .ep cs 0, .int .i64 s.items.length, .int .i64 ((i + 1 : Nat) : Int)], _, ?_, e1, ⟨hlt, by dsimp only; rw [hst]; exact e2, e3⟩, by dsimp only; omega⟩
          rw [g2] at f2
          simp only [q36_1, q36_0, evL_op, evL_sel, evL_nx, evL_exit, evL_ret, evL_join, evL_block, evL_cond, evK_some, evJ_nx, evJ_rt, evJ_ex, evB_nx, evB_rt, evB_ex, evC2_bool, evS_and, evS_or, evS_tf, evS_ft, ev_t, ev_s, ev_c, evalOp, bin_add, bin_sub, bin_mul, bin_eql, bin_neq, bin_lss, bin_leq, bin_gtr, bin_geq, sbin_eql, sbin_neq, b8, List.map_cons, List.map_nil, PV.rens, PV.ren, if_true, if_false, Bool.false_eq_true, reduceIte, Nat.reduceAdd, Nat.reduceSub, Nat.reduceMul, Nat.reduceEqDiff, Nat.reduceLeDiff, Int.reduceLE, Int.reduceLT, Int.reduceEq, Int.reduceToNat, Int.reduceAdd, Int.reduceSub, Int.reduceNeg, decide_true, decide_false, Bool.not_true, Bool.not_false, Bool.true_and, Bool.false_and, Bool.and_true, Bool.and_false, Bool.or_true, Bool.true_or, Bool.or_false, Bool.false_or, and_self, and_true, true_and, Nat.le_refl, Nat.zero_add, Nat.mul_one, Nat.one_ne_zero, Nat.zero_le, highP, lowP, Option.map_some, Option.map_none, List.drop_zero, List.take_zero, List.length_cons, List.length_nil, List.nil_append, List.append_nil, List.cons_append, fillP, PV.cells?, PV.one, PV.cleans, PV.clean, PV.of?, List.all_cons, List.all_nil, List.take_succ_cons, List.drop_succ_cons, Bool.and_self, Int.natCast_nonneg, Int.toNat_natCast, Int.toNat_zero, PV.of?, Tk.ren, tailP, evL_loop, or_true, true_or, Nat.zero_lt_one, Nat.sub_zero, List.getElem?_cons_zero, List.getElem?_cons_succ, List.set_cons_zero, List.set_cons_succ, List.take_length, hpp, f1, f1', hk, f2, hc, hpk, w1]
    · obtain rfl : i = s.items.length := by omega
      have f1 : ¬ (s.items.length : Int) < s.items.length := by omega
      refine .inl ⟨(.ex 0, [.ptr p 0, .ep cs 0], H1), ?_, by simp, H1, rfl, ?_, hl1⟩
      · simp only [q36_1, evL_op, evL_sel, evL_nx, evL_exit, evL_ret, evL_join, evL_block, evL_cond, evK_some, evJ_nx, evJ_rt, evJ_ex, evB_nx, evB_rt, evB_ex, evC2_bool, evS_and, evS_or, evS_tf, evS_ft, ev_t, ev_s, ev_c, evalOp, bin_add, bin_sub, bin_mul, bin_eql, bin_neq, bin_lss, bin_leq, bin_gtr, bin_geq, sbin_eql, sbin_neq, b8, List.map_cons, List.map_nil, PV.rens, PV.ren, if_true, if_false, Bool.false_eq_true, reduceIte, Nat.reduceAdd, Nat.reduceSub, Nat.reduceMul, Nat.reduceEqDiff, Nat.reduceLeDiff, Int.reduceLE, Int.reduceLT, Int.reduceEq, Int.reduceToNat, Int.reduceAdd, Int.reduceSub, Int.reduceNeg, decide_true, decide_false, Bool.not_true, Bool.not_false, Bool.true_and, Bool.false_and, Bool.and_true, Bool.and_false, Bool.or_true, Bool.true_or, Bool.or_false, Bool.false_or, and_self, and_true, true_and, Nat.le_refl, Nat.zero_add, Nat.mul_one, Nat.one_ne_zero, Nat.zero_le, highP, lowP, Option.map_some, Option.map_none, List.drop_zero, List.take_zero, List.length_cons, List.length_nil, List.nil_append, List.append_nil, List.cons_append, fillP, PV.cells?, PV.one, PV.cleans, PV.clean, PV.of?, List.all_cons, List.all_nil, List.take_succ_cons, List.drop_succ_cons, Bool.and_self, Int.natCast_nonneg, Int.toNat_natCast, Int.toNat_zero, PV.of?, Tk.ren, tailP, evL_loop, or_true, true_or, Nat.zero_lt_one, Nat.sub_zero, List.getElem?_cons_zero, List.getElem?_cons_succ, List.set_cons_zero, List.set_cons_succ, List.take_length, f1]
      · have : doneTo (sentF num) s.items s.items.length = s.items.map (sentF num) := by simp [doneTo]
        rw [this] at h1
        exact ⟨_, _, _, _, h1⟩) kk (0, H0) _ H hh0 ⟨Nat.zero_le _, by simpa [doneTo] using hs0, hl0⟩ (by simpa using hkk)
  exact ⟨H', hr, hS, hL⟩
def sentS (s : Spl) (num : Int) : Option Spl := if (decide (1 ≤ num) && decide (num ≤ s.packs) && !decide (num ∈ s.sent)) = true then some { s with items := s.items.map (sentF num), sent := s.sent ++ [num] } else none
theorem T_sent {r : Rc} {cs : List PV} (h : SH H q p s a b c d) (hr : RecR r cs) (hl : s.items.length ≤ 1000000) (hl2 : s.sent.length ≤ 1000000) :
    ∃ H', T 36 [.ptr p 0, .agg cs] H = some (.bool (sentS s r.number).isSome, H') ∧ SHx H' q p ((sentS s r.number).getD s) ∧ H.length ≤ H'.length := by
  obtain ⟨x1, x2, x3⟩ := hr.box
  have hc : (cs.drop 12).take 1 = [.int .i64 r.number] := by obtain ⟨ra, rb, rc, rd, rfl, _⟩ := hr; rfl
  generalize r.number = num at *
  have hpl := h.plt
  have hql := h.qlt
  have hp := h.at_
  unfold cellS at hp
  unfold sentS
  by_cases g1 : 1 ≤ num
  · have g1' : ¬ num < 1 := by omega
    by_cases g2 : num ≤ s.packs
    · have g2' : ¬ s.packs < num := by omega
      obtain ⟨b', hd, hL⟩ := lend_row h.rb rfl
      obtain ⟨H', c26⟩ := T_containsL hL num (by omega)
      have hL2 : lendL H [b, .int .i64 num] = some [b', .int .i64 num] := by
        simp only [lendL, hd]
        rfl
      by_cases g3 : num ∈ s.sent
      · simp only [decide_eq_true g1, decide_eq_true g2, decide_eq_true g3, Bool.not_true, Bool.and_false, Bool.false_eq_true, if_false]
        rw [decide_eq_true g3] at c26
        refine fin_bool (k := 0) (F := l36) rfl rfl rfl rfl rfl ?_ h (Nat.le_refl _) hpl hql
        show evL T 0 q36 _ _ = _
        unfold q36
        rw [evL_op, bx (by rfl) x1 x2, evK_some]
        simp only [evL_op, evL_sel, evL_nx, evL_exit, evL_ret, evL_join, evL_block, evL_cond, evK_some, evJ_nx, evJ_rt, evJ_ex, evB_nx, evB_rt, evB_ex, evC2_bool, evS_and, evS_or, evS_tf, evS_ft, ev_t, ev_s, ev_c, evalOp, bin_add, bin_sub, bin_mul, bin_eql, bin_neq, bin_lss, bin_leq, bin_gtr, bin_geq, sbin_eql, sbin_neq, b8, List.map_cons, List.map_nil, PV.rens, PV.ren, if_true, if_false, Bool.false_eq_true, reduceIte, Nat.reduceAdd, Nat.reduceSub, Nat.reduceMul, Nat.reduceEqDiff, Nat.reduceLeDiff, Int.reduceLE, Int.reduceLT, Int.reduceEq, Int.reduceToNat, Int.reduceAdd, Int.reduceSub, Int.reduceNeg, decide_true, decide_false, Bool.not_true, Bool.not_false, Bool.true_and, Bool.false_and, Bool.and_true, Bool.and_false, Bool.or_true, Bool.true_or, Bool.or_false, Bool.false_or, and_self, and_true, true_and, Nat.le_refl, Nat.zero_add, Nat.mul_one, Nat.one_ne_zero, Nat.zero_le, highP, lowP, Option.map_some, Option.map_none, List.drop_zero, List.take_zero, List.length_cons, List.length_nil, List.nil_append, List.append_nil, List.cons_append, fillP, PV.cells?, PV.one, PV.cleans, PV.clean, PV.of?, List.all_cons, List.all_nil, List.take_succ_cons, List.drop_succ_cons, Bool.and_self, Int.natCast_nonneg, Int.toNat_natCast, Int.toNat_zero, PV.of?, Tk.ren, tailP, evL_loop, or_true, true_or, Nat.zero_lt_one, Nat.sub_zero, List.getElem?_cons_zero, List.getElem?_cons_succ, List.set_cons_zero, List.set_cons_succ, List.take_length, hc, hp, g1', g2', hL2, c26, PV.scal, PV.scal0]
        rfl
      · simp only [decide_eq_true g1, decide_eq_true g2, decide_eq_false g3, Bool.not_false, Bool.and_true, if_true]
        rw [decide_eq_false g3] at c26
        obtain ⟨H1, lp, ⟨a1, b1, c1, d1, h1⟩, hl1⟩ := sent_loop (q := q) num hc ⟨a, b, c, d, h⟩ (Nat.le_refl _) hpl hql hl (s.items.length + 1) (s.items.length + 1) (by omega)
        have hp1 := h1.at_
        have hpl1 := h1.plt
        unfold cellS at hp1
        dsimp only at hp1
        have hrm : (s.sent.length + 1) * 8 ≤ roomMax := by unfold roomMax; omega
        have hrm1 : 1 * 8 ≤ roomMax := by decide
        have hap : nCs (s.sent ++ [num]) = nCs s.sent ++ [.int .i64 num] := by simp [nCs]
        have hnl : (nCs s.sent).length = s.sent.length := by simp
        have fin : ∀ H2 : Hp, H2.length = H1.length → (∀ k, k < H1.length → k ∉ b1.toks → H2[k]? = H1[k]?) → evL T (s.items.length + 1) q36 [.ptr p 0, .agg cs] H = some (.rt, [.bool true], (H2 ++ [Ob.cells (nCs s.sent ++ [.int .i64 num])]).set p (.cells (cellS a1 (.row H1.length 0 1 (s.sent.length + 1)) c1 d1 { s with items := s.items.map (sentF num), sent := s.sent ++ [num] }))) → ∃ H', T 36 [.ptr p 0, .agg cs] H = some (.bool true, H') ∧ SHx H' q p { s with items := s.items.map (sentF num), sent := s.sent ++ [num] } ∧ H.length ≤ H'.length := by
          intro H2 e1 e2 e3
          have hlen : (s.sent ++ [num]).length = s.sent.length + 1 := by simp
          have hS : SH ((H2 ++ [Ob.cells (nCs s.sent ++ [.int .i64 num])]).set p (.cells (cellS a1 (.row H1.length 0 1 (s.sent.length + 1)) c1 d1 { s with items := s.items.map (sentF num), sent := s.sent ++ [num] }))) q p { s with items := s.items.map (sentF num), sent := s.sent ++ [num] } a1 (.row H1.length 0 1 (s.sent ++ [num]).length) c1 d1 :=
            h1.swap_b (j := H1.length) (s' := { s with items := s.items.map (sentF num), sent := s.sent ++ [num] }) rfl rfl rfl (fun k hk hkb hkp => by rw [List.getElem?_set_ne hkp.symm, List.getElem?_append_left (by omega), e2 k hk hkb]) (by rw [hlen]; exact List.getElem?_set_self (by simp; omega)) (Nat.le_refl _) (by rw [List.getElem?_set_ne (by omega), hap, ← e1]; simp) (by simp)
          exact fin_bool (F := l36) rfl rfl rfl rfl rfl e3 hS (by simp; omega) hpl hql
        have start : ∀ R : Ev.Res, evL T (s.items.length + 1) q36_2 [.ptr p 0, .ep cs 0] H1 = R → evL T (s.items.length + 1) q36 [.ptr p 0, .agg cs] H = R := by
          intro R hR
          unfold q36
          rw [evL_op, bx (by rfl) x1 x2, evK_some]
          rcases h.ra with ⟨h0, rfl⟩ | ⟨h0, k, z, rfl, hz, hk⟩ | ⟨h0, k, rfl, hk⟩
          · rw [h0] at lp
            simp only [evL_op, evL_sel, evL_nx, evL_exit, evL_ret, evL_join, evL_block, evL_cond, evK_some, evJ_nx, evJ_rt, evJ_ex, evB_nx, evB_rt, evB_ex, evC2_bool, evS_and, evS_or, evS_tf, evS_ft, ev_t, ev_s, ev_c, evalOp, bin_add, bin_sub, bin_mul, bin_eql, bin_neq, bin_lss, bin_leq, bin_gtr, bin_geq, sbin_eql, sbin_neq, b8, List.map_cons, List.map_nil, PV.rens, PV.ren, if_true, if_false, Bool.false_eq_true, reduceIte, Nat.reduceAdd, Nat.reduceSub, Nat.reduceMul, Nat.reduceEqDiff, Nat.reduceLeDiff, Int.reduceLE, Int.reduceLT, Int.reduceEq, Int.reduceToNat, Int.reduceAdd, Int.reduceSub, Int.reduceNeg, decide_true, decide_false, Bool.not_true, Bool.not_false, Bool.true_and, Bool.false_and, Bool.and_true, Bool.and_false, Bool.or_true, Bool.true_or, Bool.or_false, Bool.false_or, and_self, and_true, true_and, Nat.le_refl, Nat.zero_add, Nat.mul_one, Nat.one_ne_zero, Nat.zero_le, highP, lowP, Option.map_some, Option.map_none, List.drop_zero, List.take_zero, List.length_cons, List.length_nil, List.nil_append, List.append_nil, List.cons_append, fillP, PV.cells?, PV.one, PV.cleans, PV.clean, PV.of?, List.all_cons, List.all_nil, List.take_succ_cons, List.drop_succ_cons, Bool.and_self, Int.natCast_nonneg, Int.toNat_natCast, Int.toNat_zero, PV.of?, Tk.ren, tailP, evL_loop, or_true, true_or, Nat.zero_lt_one, Nat.sub_zero, List.getElem?_cons_zero, List.getElem?_cons_succ, List.set_cons_zero, List.set_cons_succ, List.take_length, hc, hp, g1', g2', hL2, c26, PV.scal, PV.scal0]
            simp only [h0] at hR ⊢
            rw [lp]
            simp only [evL_op, evL_sel, evL_nx, evL_exit, evL_ret, evL_join, evL_block, evL_cond, evK_some, evJ_nx, evJ_rt, evJ_ex, evB_nx, evB_rt, evB_ex, evC2_bool, evS_and, evS_or, evS_tf, evS_ft, ev_t, ev_s, ev_c, evalOp, bin_add, bin_sub, bin_mul, bin_eql, bin_neq, bin_lss, bin_leq, bin_gtr, bin_geq, sbin_eql, sbin_neq, b8, List.map_cons, List.map_nil, PV.rens, PV.ren, if_true, if_false, Bool.false_eq_true, reduceIte, Nat.reduceAdd, Nat.reduceSub, Nat.reduceMul, Nat.reduceEqDiff, Nat.reduceLeDiff, Int.reduceLE, Int.reduceLT, Int.reduceEq, Int.reduceToNat, Int.reduceAdd, Int.reduceSub, Int.reduceNeg, decide_true, decide_false, Bool.not_true, Bool.not_false, Bool.true_and, Bool.false_and, Bool.and_true, Bool.and_false, Bool.or_true, Bool.true_or, Bool.or_false, Bool.false_or, and_self, and_true, true_and, Nat.le_refl, Nat.zero_add, Nat.mul_one, Nat.one_ne_zero, Nat.zero_le, highP, lowP, Option.map_some, Option.map_none, List.drop_zero, List.take_zero, List.length_cons, List.length_nil, List.nil_append, List.append_nil, List.cons_append, fillP, PV.cells?, PV.one, PV.cleans, PV.clean, PV.of?, List.all_cons, List.all_nil, List.take_succ_cons, List.drop_succ_cons, Bool.and_self, Int.natCast_nonneg, Int.toNat_natCast, Int.toNat_zero, PV.of?, Tk.ren, tailP, evL_loop, or_true, true_or, Nat.zero_lt_one, Nat.sub_zero, List.getElem?_cons_zero, List.getElem?_cons_succ, List.set_cons_zero, List.set_cons_succ, List.take_length]
            exact hR
          · rw [h0] at lp
            simp only [evL_op, evL_sel, evL_nx, evL_exit, evL_ret, evL_join, evL_block, evL_cond, evK_some, evJ_nx, evJ_rt, evJ_ex, evB_nx, evB_rt, evB_ex, evC2_bool, evS_and, evS_or, evS_tf, evS_ft, ev_t, ev_s, ev_c, evalOp, bin_add, bin_sub, bin_mul, bin_eql, bin_neq, bin_lss, bin_leq, bin_gtr, bin_geq, sbin_eql, sbin_neq, b8, List.map_cons, List.map_nil, PV.rens, PV.ren, if_true, if_false, Bool.false_eq_true, reduceIte, Nat.reduceAdd, Nat.reduceSub, Nat.reduceMul, Nat.reduceEqDiff, Nat.reduceLeDiff, Int.reduceLE, Int.reduceLT, Int.reduceEq, Int.reduceToNat, Int.reduceAdd, Int.reduceSub, Int.reduceNeg, decide_true, decide_false, Bool.not_true, Bool.not_false, Bool.true_and, Bool.false_and, Bool.and_true, Bool.and_false, Bool.or_true, Bool.true_or, Bool.or_false, Bool.false_or, and_self, and_true, true_and, Nat.le_refl, Nat.zero_add, Nat.mul_one, Nat.one_ne_zero, Nat.zero_le, highP, lowP, Option.map_some, Option.map_none, List.drop_zero, List.take_zero, List.length_cons, List.length_nil, List.nil_append, List.append_nil, List.cons_append, fillP, PV.cells?, PV.one, PV.cleans, PV.clean, PV.of?, List.all_cons, List.all_nil, List.take_succ_cons, List.drop_succ_cons, Bool.and_self, Int.natCast_nonneg, Int.toNat_natCast, Int.toNat_zero, PV.of?, Tk.ren, tailP, evL_loop, or_true, true_or, Nat.zero_lt_one, Nat.sub_zero, List.getElem?_cons_zero, List.getElem?_cons_succ, List.set_cons_zero, List.set_cons_succ, List.take_length, hc, hp, g1', g2', hL2, c26, PV.scal, PV.scal0]
            simp only [h0] at hR ⊢
            rw [lp]
            simp only [evL_op, evL_sel, evL_nx, evL_exit, evL_ret, evL_join, evL_block, evL_cond, evK_some, evJ_nx, evJ_rt, evJ_ex, evB_nx, evB_rt, evB_ex, evC2_bool, evS_and, evS_or, evS_tf, evS_ft, ev_t, ev_s, ev_c, evalOp, bin_add, bin_sub, bin_mul, bin_eql, bin_neq, bin_lss, bin_leq, bin_gtr, bin_geq, sbin_eql, sbin_neq, b8, List.map_cons, List.map_nil, PV.rens, PV.ren, if_true, if_false, Bool.false_eq_true, reduceIte, Nat.reduceAdd, Nat.reduceSub, Nat.reduceMul, Nat.reduceEqDiff, Nat.reduceLeDiff, Int.reduceLE, Int.reduceLT, Int.reduceEq, Int.reduceToNat, Int.reduceAdd, Int.reduceSub, Int.reduceNeg, decide_true, decide_false, Bool.not_true, Bool.not_false, Bool.true_and, Bool.false_and, Bool.and_true, Bool.and_false, Bool.or_true, Bool.true_or, Bool.or_false, Bool.false_or, and_self, and_true, true_and, Nat.le_refl, Nat.zero_add, Nat.mul_one, Nat.one_ne_zero, Nat.zero_le, highP, lowP, Option.map_some, Option.map_none, List.drop_zero, List.take_zero, List.length_cons, List.length_nil, List.nil_append, List.append_nil, List.cons_append, fillP, PV.cells?, PV.one, PV.cleans, PV.clean, PV.of?, List.all_cons, List.all_nil, List.take_succ_cons, List.drop_succ_cons, Bool.and_self, Int.natCast_nonneg, Int.toNat_natCast, Int.toNat_zero, PV.of?, Tk.ren, tailP, evL_loop, or_true, true_or, Nat.zero_lt_one, Nat.sub_zero, List.getElem?_cons_zero, List.getElem?_cons_succ, List.set_cons_zero, List.set_cons_succ, List.take_length]
            exact hR
          · simp only [evL_op, evL_sel, evL_nx, evL_exit, evL_ret, evL_join, evL_block, evL_cond, evK_some, evJ_nx, evJ_rt, evJ_ex, evB_nx, evB_rt, evB_ex, evC2_bool, evS_and, evS_or, evS_tf, evS_ft, ev_t, ev_s, ev_c, evalOp, bin_add, bin_sub, bin_mul, bin_eql, bin_neq, bin_lss, bin_leq, bin_gtr, bin_geq, sbin_eql, sbin_neq, b8, List.map_cons, List.map_nil, PV.rens, PV.ren, if_true, if_false, Bool.false_eq_true, reduceIte, Nat.reduceAdd, Nat.reduceSub, Nat.reduceMul, Nat.reduceEqDiff, Nat.reduceLeDiff, Int.reduceLE, Int.reduceLT, Int.reduceEq, Int.reduceToNat, Int.reduceAdd, Int.reduceSub, Int.reduceNeg, decide_true, decide_false, Bool.not_true, Bool.not_false, Bool.true_and, Bool.false_and, Bool.and_true, Bool.and_false, Bool.or_true, Bool.true_or, Bool.or_false, Bool.false_or, and_self, and_true, true_and, Nat.le_refl, Nat.zero_add, Nat.mul_one, Nat.one_ne_zero, Nat.zero_le, highP, lowP, Option.map_some, Option.map_none, List.drop_zero, List.take_zero, List.length_cons, List.length_nil, List.nil_append, List.append_nil, List.cons_append, fillP, PV.cells?, PV.one, PV.cleans, PV.clean, PV.of?, List.all_cons, List.all_nil, List.take_succ_cons, List.drop_succ_cons, Bool.and_self, Int.natCast_nonneg, Int.toNat_natCast, Int.toNat_zero, PV.of?, Tk.ren, tailP, evL_loop, or_true, true_or, Nat.zero_lt_one, Nat.sub_zero, List.getElem?_cons_zero, List.getElem?_cons_succ, List.set_cons_zero, List.set_cons_succ, List.take_length, hc, hp, g1', g2', hL2, c26, PV.scal, PV.scal0]
            rw [lp]
            simp only [evL_op, evL_sel, evL_nx, evL_exit, evL_ret, evL_join, evL_block, evL_cond, evK_some, evJ_nx, evJ_rt, evJ_ex, evB_nx, evB_rt, evB_ex, evC2_bool, evS_and, evS_or, evS_tf, evS_ft, ev_t, ev_s, ev_c, evalOp, bin_add, bin_sub, bin_mul, bin_eql, bin_neq, bin_lss, bin_leq, bin_gtr, bin_geq, sbin_eql, sbin_neq, b8, List.map_cons, List.map_nil, PV.rens, PV.ren, if_true, if_false, Bool.false_eq_true, reduceIte, Nat.reduceAdd, Nat.reduceSub, Nat.reduceMul, Nat.reduceEqDiff, Nat.reduceLeDiff, Int.reduceLE, Int.reduceLT, Int.reduceEq, Int.reduceToNat, Int.reduceAdd, Int.reduceSub, Int.reduceNeg, decide_true, decide_false, Bool.not_true, Bool.not_false, Bool.true_and, Bool.false_and, Bool.and_true, Bool.and_false, Bool.or_true, Bool.true_or, Bool.or_false, Bool.false_or, and_self, and_true, true_and, Nat.le_refl, Nat.zero_add, Nat.mul_one, Nat.one_ne_zero, Nat.zero_le, highP, lowP, Option.map_some, Option.map_none, List.drop_zero, List.take_zero, List.length_cons, List.length_nil, List.nil_append, List.append_nil, List.cons_append, fillP, PV.cells?, PV.one, PV.cleans, PV.clean, PV.of?, List.all_cons, List.all_nil, List.take_succ_cons, List.drop_succ_cons, Bool.and_self, Int.natCast_nonneg, Int.toNat_natCast, Int.toNat_zero, PV.of?, Tk.ren, tailP, evL_loop, or_true, true_or, Nat.zero_lt_one, Nat.sub_zero, List.getElem?_cons_zero, List.getElem?_cons_succ, List.set_cons_zero, List.set_cons_succ, List.take_length]
            exact hR
        rcases h1.rb with ⟨h0, rfl⟩ | ⟨h0, k, z, rfl, hz, hk⟩ | ⟨h0, k, rfl, hk⟩
        · dsimp only at h0
          have hs0 : nCs s.sent = [] := by rw [List.eq_nil_of_length_eq_zero h0]; rfl
          refine fin H1 rfl (fun _ _ _ => rfl) (start _ ?_)
          have hpa : (H1 ++ [Ob.cells [.int .i64 num]])[p]? = _ := (List.getElem?_append_left hpl1).trans hp1
          rw [h0, hs0]
          simp only [q36_2, evL_op, evL_sel, evL_nx, evL_exit, evL_ret, evL_join, evL_block, evL_cond, evK_some, evJ_nx, evJ_rt, evJ_ex, evB_nx, evB_rt, evB_ex, evC2_bool, evS_and, evS_or, evS_tf, evS_ft, ev_t, ev_s, ev_c, evalOp, bin_add, bin_sub, bin_mul, bin_eql, bin_neq, bin_lss, bin_leq, bin_gtr, bin_geq, sbin_eql, sbin_neq, b8, List.map_cons, List.map_nil, PV.rens, PV.ren, if_true, if_false, Bool.false_eq_true, reduceIte, Nat.reduceAdd, Nat.reduceSub, Nat.reduceMul, Nat.reduceEqDiff, Nat.reduceLeDiff, Int.reduceLE, Int.reduceLT, Int.reduceEq, Int.reduceToNat, Int.reduceAdd, Int.reduceSub, Int.reduceNeg, decide_true, decide_false, Bool.not_true, Bool.not_false, Bool.true_and, Bool.false_and, Bool.and_true, Bool.and_false, Bool.or_true, Bool.true_or, Bool.or_false, Bool.false_or, and_self, and_true, true_and, Nat.le_refl, Nat.zero_add, Nat.mul_one, Nat.one_ne_zero, Nat.zero_le, highP, lowP, Option.map_some, Option.map_none, List.drop_zero, List.take_zero, List.length_cons, List.length_nil, List.nil_append, List.append_nil, List.cons_append, fillP, PV.cells?, PV.one, PV.cleans, PV.clean, PV.of?, List.all_cons, List.all_nil, List.take_succ_cons, List.drop_succ_cons, Bool.and_self, Int.natCast_nonneg, Int.toNat_natCast, Int.toNat_zero, PV.of?, Tk.ren, tailP, evL_loop, or_true, true_or, Nat.zero_lt_one, Nat.sub_zero, List.getElem?_cons_zero, List.getElem?_cons_succ, List.set_cons_zero, List.set_cons_succ, List.take_length, tailR, hc, hp1, hrm1, hpa, cellS]
        · dsimp only at h0
          have hs0 : nCs s.sent = [] := by rw [List.eq_nil_of_length_eq_zero h0]; rfl
          have hz1 : z = 1 ∨ z = 0 := hz
          have hkp : k ≠ p := (h1.sep.2.2.1 k (by simp [PV.toks])).1
          refine fin (H1.set k .dead) (by simp) (fun j _ hj => List.getElem?_set_ne (fun e => hj (by simp [PV.toks, e]))) (start _ ?_)
          have hpa : (H1.set k .dead ++ [Ob.cells [.int .i64 num]])[p]? = _ := (List.getElem?_append_left (by simpa using hpl1)).trans ((List.getElem?_set_ne hkp).trans hp1)
          rw [h0, hs0]
          simp only [q36_2, evL_op, evL_sel, evL_nx, evL_exit, evL_ret, evL_join, evL_block, evL_cond, evK_some, evJ_nx, evJ_rt, evJ_ex, evB_nx, evB_rt, evB_ex, evC2_bool, evS_and, evS_or, evS_tf, evS_ft, ev_t, ev_s, ev_c, evalOp, bin_add, bin_sub, bin_mul, bin_eql, bin_neq, bin_lss, bin_leq, bin_gtr, bin_geq, sbin_eql, sbin_neq, b8, List.map_cons, List.map_nil, PV.rens, PV.ren, if_true, if_false, Bool.false_eq_true, reduceIte, Nat.reduceAdd, Nat.reduceSub, Nat.reduceMul, Nat.reduceEqDiff, Nat.reduceLeDiff, Int.reduceLE, Int.reduceLT, Int.reduceEq, Int.reduceToNat, Int.reduceAdd, Int.reduceSub, Int.reduceNeg, decide_true, decide_false, Bool.not_true, Bool.not_false, Bool.true_and, Bool.false_and, Bool.and_true, Bool.and_false, Bool.or_true, Bool.true_or, Bool.or_false, Bool.false_or, and_self, and_true, true_and, Nat.le_refl, Nat.zero_add, Nat.mul_one, Nat.one_ne_zero, Nat.zero_le, highP, lowP, Option.map_some, Option.map_none, List.drop_zero, List.take_zero, List.length_cons, List.length_nil, List.nil_append, List.append_nil, List.cons_append, fillP, PV.cells?, PV.one, PV.cleans, PV.clean, PV.of?, List.all_cons, List.all_nil, List.take_succ_cons, List.drop_succ_cons, Bool.and_self, Int.natCast_nonneg, Int.toNat_natCast, Int.toNat_zero, PV.of?, Tk.ren, tailP, evL_loop, or_true, true_or, Nat.zero_lt_one, Nat.sub_zero, List.getElem?_cons_zero, List.getElem?_cons_succ, List.set_cons_zero, List.set_cons_succ, List.take_length, tailR, hc, hp1, hk, hz1, hrm1, hpa, cellS]
        · have hkp : k ≠ p := (h1.sep.2.2.1 k (by simp [PV.toks])).1
          dsimp only at hk h0
          refine fin (H1.set k .dead) (by simp) (fun j _ hj => List.getElem?_set_ne (fun e => hj (by simp [PV.toks, e]))) (start _ ?_)
          have hpa : (H1.set k .dead ++ [Ob.cells (nCs s.sent ++ [.int .i64 num])])[p]? = _ := (List.getElem?_append_left (by simpa using hpl1)).trans ((List.getElem?_set_ne hkp).trans hp1)
          simp only [q36_2, evL_op, evL_sel, evL_nx, evL_exit, evL_ret, evL_join, evL_block, evL_cond, evK_some, evJ_nx, evJ_rt, evJ_ex, evB_nx, evB_rt, evB_ex, evC2_bool, evS_and, evS_or, evS_tf, evS_ft, ev_t, ev_s, ev_c, evalOp, bin_add, bin_sub, bin_mul, bin_eql, bin_neq, bin_lss, bin_leq, bin_gtr, bin_geq, sbin_eql, sbin_neq, b8, List.map_cons, List.map_nil, PV.rens, PV.ren, if_true, if_false, Bool.false_eq_true, reduceIte, Nat.reduceAdd, Nat.reduceSub, Nat.reduceMul, Nat.reduceEqDiff, Nat.reduceLeDiff, Int.reduceLE, Int.reduceLT, Int.reduceEq, Int.reduceToNat, Int.reduceAdd, Int.reduceSub, Int.reduceNeg, decide_true, decide_false, Bool.not_true, Bool.not_false, Bool.true_and, Bool.false_and, Bool.and_true, Bool.and_false, Bool.or_true, Bool.true_or, Bool.or_false, Bool.false_or, and_self, and_true, true_and, Nat.le_refl, Nat.zero_add, Nat.mul_one, Nat.one_ne_zero, Nat.zero_le, highP, lowP, Option.map_some, Option.map_none, List.drop_zero, List.take_zero, List.length_cons, List.length_nil, List.nil_append, List.append_nil, List.cons_append, fillP, PV.cells?, PV.one, PV.cleans, PV.clean, PV.of?, List.all_cons, List.all_nil, List.take_succ_cons, List.drop_succ_cons, Bool.and_self, Int.natCast_nonneg, Int.toNat_natCast, Int.toNat_zero, PV.of?, Tk.ren, tailP, evL_loop, or_true, true_or, Nat.zero_lt_one, Nat.sub_zero, List.getElem?_cons_zero, List.getElem?_cons_succ, List.set_cons_zero, List.set_cons_succ, List.take_length, tailR, hc, hp1, hk, hnl, ints_one, hrm, hpa, cellS]
    · have g2' : s.packs < num := by omega
      simp only [decide_eq_true g1, decide_eq_false g2, Bool.and_false, Bool.false_and, Bool.false_eq_true, if_false]
      refine fin_bool (k := 0) (F := l36) rfl rfl rfl rfl rfl ?_ h (Nat.le_refl _) hpl hql
      show evL T 0 q36 _ _ = _
      unfold q36
      rw [evL_op, bx (by rfl) x1 x2, evK_some]
      simp only [evL_op, evL_sel, evL_nx, evL_exit, evL_ret, evL_join, evL_block, evL_cond, evK_some, evJ_nx, evJ_rt, evJ_ex, evB_nx, evB_rt, evB_ex, evC2_bool, evS_and, evS_or, evS_tf, evS_ft, ev_t, ev_s, ev_c, evalOp, bin_add, bin_sub, bin_mul, bin_eql, bin_neq, bin_lss, bin_leq, bin_gtr, bin_geq, sbin_eql, sbin_neq, b8, List.map_cons, List.map_nil, PV.rens, PV.ren, if_true, if_false, Bool.false_eq_true, reduceIte, Nat.reduceAdd, Nat.reduceSub, Nat.reduceMul, Nat.reduceEqDiff, Nat.reduceLeDiff, Int.reduceLE, Int.reduceLT, Int.reduceEq, Int.reduceToNat, Int.reduceAdd, Int.reduceSub, Int.reduceNeg, decide_true, decide_false, Bool.not_true, Bool.not_false, Bool.true_and, Bool.false_and, Bool.and_true, Bool.and_false, Bool.or_true, Bool.true_or, Bool.or_false, Bool.false_or, and_self, and_true, true_and, Nat.le_refl, Nat.zero_add, Nat.mul_one, Nat.one_ne_zero, Nat.zero_le, highP, lowP, Option.map_some, Option.map_none, List.drop_zero, List.take_zero, List.length_cons, List.length_nil, List.nil_append, List.append_nil, List.cons_append, fillP, PV.cells?, PV.one, PV.cleans, PV.clean, PV.of?, List.all_cons, List.all_nil, List.take_succ_cons, List.drop_succ_cons, Bool.and_self, Int.natCast_nonneg, Int.toNat_natCast, Int.toNat_zero, PV.of?, Tk.ren, tailP, evL_loop, or_true, true_or, Nat.zero_lt_one, Nat.sub_zero, List.getElem?_cons_zero, List.getElem?_cons_succ, List.set_cons_zero, List.set_cons_succ, List.take_length, hc, hp, g1', g2']
      rfl
  · have g1' : num < 1 := by omega
    simp only [decide_eq_false g1, Bool.false_and, Bool.false_eq_true, if_false]
    refine fin_bool (k := 0) (F := l36) rfl rfl rfl rfl rfl ?_ h (Nat.le_refl _) hpl hql
    show evL T 0 q36 _ _ = _
    unfold q36
    rw [evL_op, bx (by rfl) x1 x2, evK_some]
    simp only [evL_op, evL_sel, evL_nx, evL_exit, evL_ret, evL_join, evL_block, evL_cond, evK_some, evJ_nx, evJ_rt, evJ_ex, evB_nx, evB_rt, evB_ex, evC2_bool, evS_and, evS_or, evS_tf, evS_ft, ev_t, ev_s, ev_c, evalOp, bin_add, bin_sub, bin_mul, bin_eql, bin_neq, bin_lss, bin_leq, bin_gtr, bin_geq, sbin_eql, sbin_neq, b8, List.map_cons, List.map_nil, PV.rens, PV.ren, if_true, if_false, Bool.false_eq_true, reduceIte, Nat.reduceAdd, Nat.reduceSub, Nat.reduceMul, Nat.reduceEqDiff, Nat.reduceLeDiff, Int.reduceLE, Int.reduceLT, Int.reduceEq, Int.reduceToNat, Int.reduceAdd, Int.reduceSub, Int.reduceNeg, decide_true, decide_false, Bool.not_true, Bool.not_false, Bool.true_and, Bool.false_and, Bool.and_true, Bool.and_false, Bool.or_true, Bool.true_or, Bool.or_false, Bool.false_or, and_self, and_true, true_and, Nat.le_refl, Nat.zero_add, Nat.mul_one, Nat.one_ne_zero, Nat.zero_le, highP, lowP, Option.map_some, Option.map_none, List.drop_zero, List.take_zero, List.length_cons, List.length_nil, List.nil_append, List.append_nil, List.cons_append, fillP, PV.cells?, PV.one, PV.cleans, PV.clean, PV.of?, List.all_cons, List.all_nil, List.take_succ_cons, List.drop_succ_cons, Bool.and_self, Int.natCast_nonneg, Int.toNat_natCast, Int.toNat_zero, PV.of?, Tk.ren, tailP, evL_loop, or_true, true_or, Nat.zero_lt_one, Nat.sub_zero, List.getElem?_cons_zero, List.getElem?_cons_succ, List.set_cons_zero, List.set_cons_succ, List.take_length, hc, g1']
    rfl
end
end Go.Proofs.YtnljpfjoboafoaaDoor.Tab

namespace Go.Proofs.YtnljpfjoboafoaaDoor.Tab
set_option linter.all false
open Go Go.RowKit Go.Proofs.YtnljpfjoboafoaaDoor.Ev
def packGo (s : Spl) : Int → List Int → Bool
  | _, [] => true
  | v, x :: r => waitS s x && decide (v < x) && packGo s x r
theorem packGo_cons (s : Spl) (v x : Int) (r : List Int) : packGo s v (x :: r) = (waitS s x && decide (v < x) && packGo s x r) := rfl
def packI (num : Int) (l : List Itm) (id : Int) : List Itm := l.modify (id - 1).toNat fun x => { x with state := 2, pack := num }
def packS (s : Spl) (r : Rc) : Option Spl :=
  if (decide (r.number = s.packs + 1) && decide ((1 : Int) ≤ r.ids.length) && decide ((r.ids.length : Int) ≤ 4) && packGo s 0 r.ids) = true then some { s with items := r.ids.foldl (packI r.number) s.items, packs := r.number } else none
theorem waitS_iff {s : Spl} {x : Int} (h : waitS s x = true) : 1 ≤ x ∧ x ≤ s.items.length := by
  unfold waitS at h
  simp only [Bool.and_eq_true, decide_eq_true_eq] at h
  exact h.1
theorem packGo_all {s : Spl} : ∀ {l : List Int} {v : Int}, packGo s v l = true → ∀ x ∈ l, 1 ≤ x ∧ x ≤ s.items.length
  | [], _, _, x, hx => by cases hx
  | y :: r, v, h, x, hx => by
    unfold packGo at h
    simp only [Bool.and_eq_true] at h
    rcases List.mem_cons.1 hx with rfl | hx
    · exact waitS_iff h.1.1
    · exact packGo_all h.2 x hx
theorem packs_len (num : Int) : ∀ (ids : List Int) (l : List Itm), (ids.foldl (packI num) l).length = l.length
  | [], l => rfl
  | x :: r, l => by rw [List.foldl_cons, packs_len num r, packI, List.length_modify]
def prevI (l : List Int) (i : Nat) : Int := match i with | 0 => 0 | j + 1 => l.getD j 0
section
variable {H : Hp} {q p : Nat} {s : Spl} {a b c d : PV}
theorem he_env {H : Hp} {cs : List PV} {v : PV} (hv : flat v = true) (z y : Int) : ∀ x ∈ [PV.ptr p 0, .ep cs 0, v, .int .i64 z, .int .i64 y], flat x = true ∨ x = .ptr p 0 ∨ x = .ptr q 0 := by
  intro x hx
  simp only [List.mem_cons, List.not_mem_nil, or_false] at hx
  rcases hx with rfl | rfl | rfl | rfl | rfl
  · exact .inr (.inl rfl)
  · exact .inl rfl
  · exact .inl hv
  · exact .inl rfl
  · exact .inl rfl
theorem ids_get {l : List Int} {i : Nat} (h : i < l.length) : ((l.map fun x => PV.int .i64 x).drop i).take 1 = [.int .i64 l[i]] := map_get (f := fun x => PV.int .i64 x) h
theorem pack_loop {cs : List PV} {ids : List Int} (hc : (cs.drop 10).take 1 = [inP ids]) {n : Nat} (h : SHx H q p s) (hn : n ≤ H.length) (hp : p < n) (hq : q < n) (hl : s.items.length ≤ 1000000) (hil : ids.length ≤ 1000000) (k0 kk : Nat) (hkk : ids.length < kk) :
    ∃ H', ((packGo s 0 ids = false ∧ loopL n (evL T k0 q35_1) kk [.ptr p 0, .ep cs 0, inP ids, .int .i64 ids.length, .int .i64 0] H = some (.rt, [.bool false], H')) ∨
      (packGo s 0 ids = true ∧ loopL n (evL T k0 q35_1) kk [.ptr p 0, .ep cs 0, inP ids, .int .i64 ids.length, .int .i64 0] H = some (.ex 0, [.ptr p 0, .ep cs 0], H'))) ∧ SHx H' q p s ∧ n ≤ H'.length := by
  obtain ⟨a0, b0, c0, d0, h0⟩ := h
  obtain ⟨H0, hh0, hs0, hl0⟩ := h0.head (env := [PV.ptr p 0, .ep cs 0, inP ids, .int .i64 ids.length, .int .i64 (0 : Nat)]) hn hp hq (he_env (H := H) rfl _ _)
  obtain ⟨r, hr, H', hQ, hS, hL⟩ := loop_post (n := n) (body := evL T k0 q35_1) (σ := Nat × Hp) (fun σ => [.ptr p 0, .ep cs 0, inP ids, .int .i64 ids.length, .int .i64 σ.1]) (fun σ => σ.2) (fun σ => ids.length - σ.1)
    (fun σ => σ.1 ≤ ids.length ∧ SHx σ.2 q p s ∧ n ≤ σ.2.length ∧ packGo s 0 ids = packGo s (prevI ids σ.1) (ids.drop σ.1))
    (fun r => ∃ H', ((packGo s 0 ids = false ∧ r = (.rt, [.bool false], H')) ∨ (packGo s 0 ids = true ∧ r = (.ex 0, [.ptr p 0, .ep cs 0], H'))) ∧ SHx H' q p s ∧ n ≤ H'.length) (by
    rintro ⟨i, H1⟩ ⟨hi, ⟨a1, b1, c1, d1, h1⟩, hl1, hg⟩
    dsimp only at hi h1 hl1 hg ⊢
    rcases Nat.lt_or_ge i ids.length with hlt | hge
    · have f1 : (i : Int) < ids.length := by omega
      have f2 := ids_get hlt
      have w1 := evw1 (show i ≤ 1000000 by omega)
      obtain ⟨H2, c49, ⟨a2, b2, c2, d2, h2⟩, hl2⟩ := T_waits h1 ids[i] hl
      rw [List.drop_eq_getElem_cons hlt, packGo_cons] at hg
      have hnx : prevI ids (i + 1) = ids[i] := by unfold prevI; simp [List.getD, hlt]
      have key : ((waitS s ids[i] && decide (prevI ids i < ids[i])) = true ∧ evL T k0 q35_1 [.ptr p 0, .ep cs 0, inP ids, .int .i64 ids.length, .int .i64 i] H1 = some (.nx, [.ptr p 0, .ep cs 0, inP ids, .int .i64 ids.length, .int .i64 ((i + 1 : Nat) : Int)], H2)) ∨
          ((waitS s ids[i] && decide (prevI ids i < ids[i])) = false ∧ evL T k0 q35_1 [.ptr p 0, .ep cs 0, inP ids, .int .i64 ids.length, .int .i64 i] H1 = some (.rt, [.bool false], H2)) := by
        cases hw : waitS s ids[i] with
        | false =>
          rw [hw] at c49
          refine .inr ⟨rfl, ?_⟩
          simp only [inP] at hc ⊢
          simp only [q35_1, evL_op, evL_sel, evL_nx, evL_exit, evL_ret, evL_join, evL_block, evL_cond, evK_some, evJ_nx, evJ_rt, evJ_ex, evB_nx, evB_rt, evB_ex, evC2_bool, evS_and, evS_or, evS_tf, evS_ft, ev_t, ev_s, ev_c, evalOp, bin_add, bin_sub, bin_mul, bin_eql, bin_neq, bin_lss, bin_leq, bin_gtr, bin_geq, sbin_eql, sbin_neq, b8, List.map_cons, List.map_nil, PV.rens, PV.ren, if_true, if_false, Bool.false_eq_true, reduceIte, Nat.reduceAdd, Nat.reduceSub, Nat.reduceMul, Nat.reduceEqDiff, Nat.reduceLeDiff, Int.reduceLE, Int.reduceLT, Int.reduceEq, Int.reduceToNat, Int.reduceAdd, Int.reduceSub, Int.reduceNeg, decide_true, decide_false, Bool.not_true, Bool.not_false, Bool.true_and, Bool.false_and, Bool.and_true, Bool.and_false, Bool.or_true, Bool.true_or, Bool.or_false, Bool.false_or, and_self, and_true, true_and, Nat.le_refl, Nat.zero_add, Nat.mul_one, Nat.one_ne_zero, Nat.zero_le, highP, lowP, Option.map_some, Option.map_none, List.drop_zero, List.take_zero, List.length_cons, List.length_nil, List.nil_append, List.append_nil, List.cons_append, fillP, PV.cells?, PV.one, PV.cleans, PV.clean, PV.of?, List.all_cons, List.all_nil, List.take_succ_cons, List.drop_succ_cons, Bool.and_self, Int.natCast_nonneg, Int.toNat_natCast, Int.toNat_zero, PV.of?, Tk.ren, tailP, evL_loop, or_true, true_or, Nat.zero_lt_one, Nat.sub_zero, List.getElem?_cons_zero, List.getElem?_cons_succ, List.set_cons_zero, List.set_cons_succ, List.take_length, f1, f2, c49]
        | true =>
          rw [hw] at c49
          have hw1 := waitS_iff hw
          clear hg hnx
          match i, hlt, f1, f2, w1, c49, hw, hw1 with
          | 0, hlt, f1, f2, w1, c49, hw, hw1 =>
            refine .inl ⟨by rw [show prevI ids 0 = 0 from rfl, decide_eq_true (show (0 : Int) < ids[0] by omega)]; rfl, ?_⟩
            simp only [inP] at hc ⊢
            have f0 : ¬ (0 : Int) < 0 := by omega
            have f1' : (0 : Int) < ids.length := by omega
            rw [List.drop_zero] at f2
            simp only [q35_1, q35_0, evL_op, evL_sel, evL_nx, evL_exit, evL_ret, evL_join, evL_block, evL_cond, evK_some, evJ_nx, evJ_rt, evJ_ex, evB_nx, evB_rt, evB_ex, evC2_bool, evS_and, evS_or, evS_tf, evS_ft, ev_t, ev_s, ev_c, evalOp, bin_add, bin_sub, bin_mul, bin_eql, bin_neq, bin_lss, bin_leq, bin_gtr, bin_geq, sbin_eql, sbin_neq, b8, List.map_cons, List.map_nil, PV.rens, PV.ren, if_true, if_false, Bool.false_eq_true, reduceIte, Nat.reduceAdd, Nat.reduceSub, Nat.reduceMul, Nat.reduceEqDiff, Nat.reduceLeDiff, Int.reduceLE, Int.reduceLT, Int.reduceEq, Int.reduceToNat, Int.reduceAdd, Int.reduceSub, Int.reduceNeg, decide_true, decide_false, Bool.not_true, Bool.not_false, Bool.true_and, Bool.false_and, Bool.and_true, Bool.and_false, Bool.or_true, Bool.true_or, Bool.or_false, Bool.false_or, and_self, and_true, true_and, Nat.le_refl, Nat.zero_add, Nat.mul_one, Nat.one_ne_zero, Nat.zero_le, highP, lowP, Option.map_some, Option.map_none, List.drop_zero, List.take_zero, List.length_cons, List.length_nil, List.nil_append, List.append_nil, List.cons_append, fillP, PV.cells?, PV.one, PV.cleans, PV.clean, PV.of?, List.all_cons, List.all_nil, List.take_succ_cons, List.drop_succ_cons, Bool.and_self, Int.natCast_nonneg, Int.toNat_natCast, Int.toNat_zero, PV.of?, Tk.ren, tailP, evL_loop, or_true, true_or, Nat.zero_lt_one, Nat.sub_zero, List.getElem?_cons_zero, List.getElem?_cons_succ, List.set_cons_zero, List.set_cons_succ, List.take_length, O0, f0, f1', f2, c49, hc]
            rfl
          | j + 1, hlt, f1, f2, w1, c49, hw, hw1 =>
            have hpv : prevI ids (j + 1) = ids[j] := by unfold prevI; simp [List.getD, show j < ids.length by omega]
            have f3 := ids_get (show j < ids.length by omega)
            have f0 : (0 : Int) < ((j + 1 : Nat) : Int) := by omega
            have f4 : (j : Int) < ids.length := by omega
            have w2 : IntKind.i64.wrap (((j + 1 : Nat) : Int) - 1) = (j : Int) := by rw [wr (by omega) (by omega)]; omega
            by_cases hv : ids[j + 1] ≤ ids[j]
            · refine .inr ⟨by rw [hpv, decide_eq_false (by omega)]; rfl, ?_⟩
              simp only [inP] at hc ⊢
              simp only [q35_1, evL_op, evL_sel, evL_nx, evL_exit, evL_ret, evL_join, evL_block, evL_cond, evK_some, evJ_nx, evJ_rt, evJ_ex, evB_nx, evB_rt, evB_ex, evC2_bool, evS_and, evS_or, evS_tf, evS_ft, ev_t, ev_s, ev_c, evalOp, bin_add, bin_sub, bin_mul, bin_eql, bin_neq, bin_lss, bin_leq, bin_gtr, bin_geq, sbin_eql, sbin_neq, b8, List.map_cons, List.map_nil, PV.rens, PV.ren, if_true, if_false, Bool.false_eq_true, reduceIte, Nat.reduceAdd, Nat.reduceSub, Nat.reduceMul, Nat.reduceEqDiff, Nat.reduceLeDiff, Int.reduceLE, Int.reduceLT, Int.reduceEq, Int.reduceToNat, Int.reduceAdd, Int.reduceSub, Int.reduceNeg, decide_true, decide_false, Bool.not_true, Bool.not_false, Bool.true_and, Bool.false_and, Bool.and_true, Bool.and_false, Bool.or_true, Bool.true_or, Bool.or_false, Bool.false_or, and_self, and_true, true_and, Nat.le_refl, Nat.zero_add, Nat.mul_one, Nat.one_ne_zero, Nat.zero_le, highP, lowP, Option.map_some, Option.map_none, List.drop_zero, List.take_zero, List.length_cons, List.length_nil, List.nil_append, List.append_nil, List.cons_append, fillP, PV.cells?, PV.one, PV.cleans, PV.clean, PV.of?, List.all_cons, List.all_nil, List.take_succ_cons, List.drop_succ_cons, Bool.and_self, Int.natCast_nonneg, Int.toNat_natCast, Int.toNat_zero, PV.of?, Tk.ren, tailP, evL_loop, or_true, true_or, Nat.zero_lt_one, Nat.sub_zero, List.getElem?_cons_zero, List.getElem?_cons_succ, List.set_cons_zero, List.set_cons_succ, List.take_length, f0, f1, f2, f3, f4, w2, hv, c49, hc]
            · refine .inl ⟨by rw [hpv, decide_eq_true (by omega)]; rfl, ?_⟩
              simp only [inP] at hc ⊢
              simp only [q35_1, q35_0, evL_op, evL_sel, evL_nx, evL_exit, evL_ret, evL_join, evL_block, evL_cond, evK_some, evJ_nx, evJ_rt, evJ_ex, evB_nx, evB_rt, evB_ex, evC2_bool, evS_and, evS_or, evS_tf, evS_ft, ev_t, ev_s, ev_c, evalOp, bin_add, bin_sub, bin_mul, bin_eql, bin_neq, bin_lss, bin_leq, bin_gtr, bin_geq, sbin_eql, sbin_neq, b8, List.map_cons, List.map_nil, PV.rens, PV.ren, if_true, if_false, Bool.false_eq_true, reduceIte, Nat.reduceAdd, Nat.reduceSub, Nat.reduceMul, Nat.reduceEqDiff, Nat.reduceLeDiff, Int.reduceLE, Int.reduceLT, Int.reduceEq, Int.reduceToNat, Int.reduceAdd, Int.reduceSub, Int.reduceNeg, decide_true, decide_false, Bool.not_true, Bool.not_false, Bool.true_and, Bool.false_and, Bool.and_true, Bool.and_false, Bool.or_true, Bool.true_or, Bool.or_false, Bool.false_or, and_self, and_true, true_and, Nat.le_refl, Nat.zero_add, Nat.mul_one, Nat.one_ne_zero, Nat.zero_le, highP, lowP, Option.map_some, Option.map_none, List.drop_zero, List.take_zero, List.length_cons, List.length_nil, List.nil_append, List.append_nil, List.cons_append, fillP, PV.cells?, PV.one, PV.cleans, PV.clean, PV.of?, List.all_cons, List.all_nil, List.take_succ_cons, List.drop_succ_cons, Bool.and_self, Int.natCast_nonneg, Int.toNat_natCast, Int.toNat_zero, PV.of?, Tk.ren, tailP, evL_loop, or_true, true_or, Nat.zero_lt_one, Nat.sub_zero, List.getElem?_cons_zero, List.getElem?_cons_succ, List.set_cons_zero, List.set_cons_succ, List.take_length, f0, f1, f2, f3, f4, w1, w2, hv, c49, hc]
      rcases key with ⟨hw, hb⟩ | ⟨hw, hb⟩
      · obtain ⟨H3, e1, e2, e3⟩ := h2.head (env := [PV.ptr p 0, .ep cs 0, inP ids, .int .i64 ids.length, .int .i64 ((i + 1 : Nat) : Int)]) (by omega) hp hq (he_env (H := H) rfl _ _)
        exact .inr ⟨(i + 1, H3), _, H2, hb, e1, ⟨hlt, e2, e3, by dsimp only; rw [hg, hw, hnx]; rfl⟩, by dsimp only; omega⟩
      · exact .inl ⟨(.rt, [.bool false], H2), hb, by simp, H2, .inl ⟨by rw [hg, hw]; rfl, rfl⟩, ⟨_, _, _, _, h2⟩, by omega⟩
    · obtain rfl : i = ids.length := by omega
      have f1 : ¬ (ids.length : Int) < ids.length := by omega
      rw [List.drop_length] at hg
      refine .inl ⟨(.ex 0, [.ptr p 0, .ep cs 0], H1), ?_, by simp, H1, .inr ⟨hg, rfl⟩, ⟨_, _, _, _, h1⟩, hl1⟩
      simp only [q35_1, evL_op, evL_sel, evL_nx, evL_exit, evL_ret, evL_join, evL_block, evL_cond, evK_some, evJ_nx, evJ_rt, evJ_ex, evB_nx, evB_rt, evB_ex, evC2_bool, evS_and, evS_or, evS_tf, evS_ft, ev_t, ev_s, ev_c, evalOp, bin_add, bin_sub, bin_mul, bin_eql, bin_neq, bin_lss, bin_leq, bin_gtr, bin_geq, sbin_eql, sbin_neq, b8, List.map_cons, List.map_nil, PV.rens, PV.ren, if_true, if_false, Bool.false_eq_true, reduceIte, Nat.reduceAdd, Nat.reduceSub, Nat.reduceMul, Nat.reduceEqDiff, Nat.reduceLeDiff, Int.reduceLE, Int.reduceLT, Int.reduceEq, Int.reduceToNat, Int.reduceAdd, Int.reduceSub, Int.reduceNeg, decide_true, decide_false, Bool.not_true, Bool.not_false, Bool.true_and, Bool.false_and, Bool.and_true, Bool.and_false, Bool.or_true, Bool.true_or, Bool.or_false, Bool.false_or, and_self, and_true, true_and, Nat.le_refl, Nat.zero_add, Nat.mul_one, Nat.one_ne_zero, Nat.zero_le, highP, lowP, Option.map_some, Option.map_none, List.drop_zero, List.take_zero, List.length_cons, List.length_nil, List.nil_append, List.append_nil, List.cons_append, fillP, PV.cells?, PV.one, PV.cleans, PV.clean, PV.of?, List.all_cons, List.all_nil, List.take_succ_cons, List.drop_succ_cons, Bool.and_self, Int.natCast_nonneg, Int.toNat_natCast, Int.toNat_zero, PV.of?, Tk.ren, tailP, evL_loop, or_true, true_or, Nat.zero_lt_one, Nat.sub_zero, List.getElem?_cons_zero, List.getElem?_cons_succ, List.set_cons_zero, List.set_cons_succ, List.take_length, f1]) kk (0, H0) _ H hh0 ⟨Nat.zero_le _, hs0, hl0, by rfl⟩ (by simpa using hkk)
  refine ⟨H', ?_, hS, hL⟩
  rcases hQ with ⟨e1, e2⟩ | ⟨e1, e2⟩
  · exact .inl ⟨e1, by rw [← e2]; exact hr⟩
  · exact .inr ⟨e1, by rw [← e2]; exact hr⟩
theorem pack_set {cs : List PV} {ids : List Int} {num : Int} (hc : (cs.drop 12).take 1 = [.int .i64 num]) {n : Nat} (h : SHx H q p s) (hn : n ≤ H.length) (hp : p < n) (hq : q < n) (hl : s.items.length ≤ 1000000) (hil : ids.length ≤ 1000000) (hr : ∀ x ∈ ids, 1 ≤ x ∧ x ≤ s.items.length) (k0 kk : Nat) (hkk : ids.length < kk) :
    ∃ H', loopL n (evL T k0 q35_3) kk [.ptr p 0, .ep cs 0, inP ids, .int .i64 ids.length, .int .i64 0] H = some (.ex 2, [.ptr p 0, .ep cs 0], H') ∧ SHx H' q p { s with items := ids.foldl (packI num) s.items } ∧ n ≤ H'.length := by
  obtain ⟨a0, b0, c0, d0, h0⟩ := h
  obtain ⟨H0, hh0, hs0, hl0⟩ := h0.head (env := [PV.ptr p 0, .ep cs 0, inP ids, .int .i64 ids.length, .int .i64 (0 : Nat)]) hn hp hq (he_env (H := H) rfl _ _)
  obtain ⟨r, hr, H', rfl, hS, hL⟩ := loop_post (n := n) (body := evL T k0 q35_3) (σ := Nat × Hp) (fun σ => [.ptr p 0, .ep cs 0, inP ids, .int .i64 ids.length, .int .i64 σ.1]) (fun σ => σ.2) (fun σ => ids.length - σ.1)
    (fun σ => σ.1 ≤ ids.length ∧ SHx σ.2 q p { s with items := (ids.take σ.1).foldl (packI num) s.items } ∧ n ≤ σ.2.length)
    (fun r => ∃ H', r = (.ex 2, [.ptr p 0, .ep cs 0], H') ∧ SHx H' q p { s with items := ids.foldl (packI num) s.items } ∧ n ≤ H'.length) (by
    rintro ⟨i, H1⟩ ⟨hi, ⟨a1, b1, c1, d1, h1⟩, hl1⟩
    dsimp only at hi h1 hl1 ⊢
    rcases Nat.lt_or_ge i ids.length with hlt | hge
    · have f1 : (i : Int) < ids.length := by omega
      have f2 := ids_get hlt
      have w1 := evw1 (show i ≤ 1000000 by omega)
      obtain ⟨r1, r2⟩ := hr _ (List.getElem_mem hlt)
      have hsn : ids.take (i + 1) = ids.take i ++ [ids[i]] := List.take_succ_eq_append_getElem hlt
      have hlen := packs_len num (ids.take i) s.items
      obtain ⟨j, hj⟩ : ∃ j : Nat, ids[i] - 1 = j := ⟨(ids[i] - 1).toNat, by omega⟩
      have w2 := w_id r1 (by omega)
      rw [hj] at w2
      have hstep : (ids.take (i + 1)).foldl (packI num) s.items = packI num ((ids.take i).foldl (packI num) s.items) ids[i] := by rw [hsn, List.foldl_append]; rfl
      generalize (ids.take i).foldl (packI num) s.items = l at *
      have hjl : j < l.length := by omega
      have hpp := h1.at_
      unfold cellS at hpp
      rcases h1.ra with ⟨h0, rfl⟩ | ⟨h0, k, z, rfl, hz, hk⟩ | ⟨h0, k, rfl, hk⟩
      · dsimp only at h0; omega
      · dsimp only at h0; omega
      · dsimp only at hk hpp h0
        have f3 : (j : Int) < l.length := by omega
        have p1 := put_st hjl 2
        have hjl2 : j < (l.set j { l[j] with state := 2 }).length := by simpa using hjl
        have p2 := put_pk hjl2 num
        have l1 : j * 11 + 9 + 1 ≤ (iCs l).length := by rw [iCs_len]; omega
        have l2 : j * 11 + 10 + 1 ≤ (iCs (l.set j { l[j] with state := 2 })).length := by rw [iCs_len, List.length_set]; omega
        have hset : packI num l ids[i] = (l.set j { l[j] with state := 2 }).set j { (l.set j { l[j] with state := 2 })[j] with pack := num } := by
          unfold packI
          rw [hj, Int.toNat_natCast, modify_set hjl, List.set_set, List.getElem_set_self]
        have hkl : k < H1.length := (List.getElem?_eq_some_iff.1 hk).1
        have hkk2 : ∀ x, (H1.set k x)[k]? = some x := fun x => List.getElem?_set_self hkl
        have hS := h1.row (l := (l.set j { l[j] with state := 2 }).set j { (l.set j { l[j] with state := 2 })[j] with pack := num }) (by simp) (by simp; omega)
        obtain ⟨H2, e1, e2, e3⟩ := hS.head (env := [PV.ptr p 0, .ep cs 0, inP ids, .int .i64 ids.length, .int .i64 ((i + 1 : Nat) : Int)]) (by simpa using hl1) hp hq (he_env (H := H) rfl _ _)
        refine .inr ⟨(i + 1, H2), [.ptr p 0, .ep cs 0, inP ids, .int .i64 ids.length, .int .i64 ((i + 1 : Nat) : Int)], _, ?_, e1, ⟨hlt, by dsimp only; rw [hstep, hset]; exact e2, e3⟩, by dsimp only; omega⟩
        simp only [inP]
        simp only [q35_3, q35_2, evL_op, evL_sel, evL_nx, evL_exit, evL_ret, evL_join, evL_block, evL_cond, evK_some, evJ_nx, evJ_rt, evJ_ex, evB_nx, evB_rt, evB_ex, evC2_bool, evS_and, evS_or, evS_tf, evS_ft, ev_t, ev_s, ev_c, evalOp, bin_add, bin_sub, bin_mul, bin_eql, bin_neq, bin_lss, bin_leq, bin_gtr, bin_geq, sbin_eql, sbin_neq, b8, List.map_cons, List.map_nil, PV.rens, PV.ren, if_true, if_false, Bool.false_eq_true, reduceIte, Nat.reduceAdd, Nat.reduceSub, Nat.reduceMul, Nat.reduceEqDiff, Nat.reduceLeDiff, Int.reduceLE, Int.reduceLT, Int.reduceEq, Int.reduceToNat, Int.reduceAdd, Int.reduceSub, Int.reduceNeg, decide_true, decide_false, Bool.not_true, Bool.not_false, Bool.true_and, Bool.false_and, Bool.and_true, Bool.and_false, Bool.or_true, Bool.true_or, Bool.or_false, Bool.false_or, and_self, and_true, true_and, Nat.le_refl, Nat.zero_add, Nat.mul_one, Nat.one_ne_zero, Nat.zero_le, highP, lowP, Option.map_some, Option.map_none, List.drop_zero, List.take_zero, List.length_cons, List.length_nil, List.nil_append, List.append_nil, List.cons_append, fillP, PV.cells?, PV.one, PV.cleans, PV.clean, PV.of?, List.all_cons, List.all_nil, List.take_succ_cons, List.drop_succ_cons, Bool.and_self, Int.natCast_nonneg, Int.toNat_natCast, Int.toNat_zero, PV.of?, Tk.ren, tailP, evL_loop, or_true, true_or, Nat.zero_lt_one, Nat.sub_zero, List.getElem?_cons_zero, List.getElem?_cons_succ, List.set_cons_zero, List.set_cons_succ, List.take_length, PV.isBot, PV.id?, f1, f2, f3, hpp, hk, hj, w1, w2, l1, l2, p1, p2, hc, hkk2, List.set_set, or_self]
    · obtain rfl : i = ids.length := by omega
      have f1 : ¬ (ids.length : Int) < ids.length := by omega
      rw [List.take_length] at h1
      refine .inl ⟨(.ex 2, [.ptr p 0, .ep cs 0], H1), ?_, by simp, H1, rfl, ⟨_, _, _, _, h1⟩, hl1⟩
      simp only [q35_3, evL_op, evL_sel, evL_nx, evL_exit, evL_ret, evL_join, evL_block, evL_cond, evK_some, evJ_nx, evJ_rt, evJ_ex, evB_nx, evB_rt, evB_ex, evC2_bool, evS_and, evS_or, evS_tf, evS_ft, ev_t, ev_s, ev_c, evalOp, bin_add, bin_sub, bin_mul, bin_eql, bin_neq, bin_lss, bin_leq, bin_gtr, bin_geq, sbin_eql, sbin_neq, b8, List.map_cons, List.map_nil, PV.rens, PV.ren, if_true, if_false, Bool.false_eq_true, reduceIte, Nat.reduceAdd, Nat.reduceSub, Nat.reduceMul, Nat.reduceEqDiff, Nat.reduceLeDiff, Int.reduceLE, Int.reduceLT, Int.reduceEq, Int.reduceToNat, Int.reduceAdd, Int.reduceSub, Int.reduceNeg, decide_true, decide_false, Bool.not_true, Bool.not_false, Bool.true_and, Bool.false_and, Bool.and_true, Bool.and_false, Bool.or_true, Bool.true_or, Bool.or_false, Bool.false_or, and_self, and_true, true_and, Nat.le_refl, Nat.zero_add, Nat.mul_one, Nat.one_ne_zero, Nat.zero_le, highP, lowP, Option.map_some, Option.map_none, List.drop_zero, List.take_zero, List.length_cons, List.length_nil, List.nil_append, List.append_nil, List.cons_append, fillP, PV.cells?, PV.one, PV.cleans, PV.clean, PV.of?, List.all_cons, List.all_nil, List.take_succ_cons, List.drop_succ_cons, Bool.and_self, Int.natCast_nonneg, Int.toNat_natCast, Int.toNat_zero, PV.of?, Tk.ren, tailP, evL_loop, or_true, true_or, Nat.zero_lt_one, Nat.sub_zero, List.getElem?_cons_zero, List.getElem?_cons_succ, List.set_cons_zero, List.set_cons_succ, List.take_length, f1]) kk (0, H0) _ H hh0 ⟨Nat.zero_le _, hs0, hl0⟩ (by simpa using hkk)
  exact ⟨H', hr, hS, hL⟩
end
end Go.Proofs.YtnljpfjoboafoaaDoor.Tab
