/- HeadStamped: it is true. -/
import Derived.Test.YtmdnloajpjfbmaaDoorFront
namespace Go.Proofs.YtmdnloajpjfbmaaDoor.Tab
set_option linter.all false
open Go Go.RowKit Go.Proofs.YtmdnloajpjfbmaaDoor.Ev
section
variable (b h s : List UInt8) (hb : b.length ≤ 2000) (hl : h.length + s.length ≤ 800)
include hb hl
theorem stamped_no (a e : Int) (he : e ≠ 0) (c19 : T 19 [sl8 b, .str h, .str s, .int .i64 a] [] = some (.tup [.sl .nil 0 0 [], .int .i64 e], [])) :
    T 8 [sl8 b, .str h, .str s, .int .i64 a] [] = some (.bool true, []) := by
  have fin : ∀ {H : Hp}, evL T 0 q8 [sl8 b, .str h, .str s, .int .i64 a] [] = some (.rt, [.bool true], H) → T 8 [sl8 b, .str h, .str s, .int .i64 a] [] = some (.bool true, []) := fun {H} h =>
    evT_of (k := 0) (F := l8) (H' := H) (e := [.bool true]) (l := [.bool true]) rfl rfl rfl h rfl rfl
  have h1 : ¬ (2000 : Int) < b.length := by omega
  have w1 : IntKind.i64.wrap ((h.length : Int) + s.length) = h.length + s.length := wr (by omega) (by omega)
  have h2 : ¬ (800 : Int) < h.length + s.length := by omega
  apply fin
  simp only [q8, evL_op, evL_sel, evL_nx, evL_exit, evL_ret, evL_join, evL_block, evL_cond, evK_some, evJ_nx, evJ_rt, evJ_ex, evB_nx, evB_rt, evB_ex, evC2_bool, evS_and, evS_or, evS_tf, evS_ft, ev_t, ev_s, ev_c, evalOp, bin_add, bin_sub, bin_mul, bin_eql, bin_neq, bin_lss, bin_leq, bin_gtr, bin_geq, sbin_eql, sbin_neq, b8, List.map_cons, List.map_nil, PV.rens, PV.ren, if_true, if_false, Bool.false_eq_true, reduceIte, Nat.reduceAdd, Nat.reduceSub, Nat.reduceMul, Nat.reduceEqDiff, Nat.reduceLeDiff, Int.reduceLE, Int.reduceLT, Int.reduceEq, Int.reduceToNat, Int.reduceAdd, Int.reduceSub, Int.reduceNeg, decide_true, decide_false, Bool.not_true, Bool.not_false, Bool.true_and, Bool.false_and, Bool.and_true, Bool.and_false, Bool.or_true, Bool.true_or, Bool.or_false, Bool.false_or, and_self, and_true, true_and, Nat.le_refl, Nat.zero_add, Nat.mul_one, Nat.one_ne_zero, Nat.zero_le, highP, lowP, Option.map_some, Option.map_none, List.drop_zero, List.take_zero, List.length_cons, List.length_nil, List.nil_append, List.append_nil, List.cons_append, fillP, PV.cells?, PV.one, PV.cleans, PV.clean, PV.of?, List.all_cons, List.all_nil, List.take_succ_cons, List.drop_succ_cons, Bool.and_self, Int.natCast_nonneg, Int.toNat_natCast, Int.toNat_zero, PV.of?, Tk.ren, tailP, evL_loop, or_true, true_or, Nat.zero_lt_one, Nat.sub_zero, List.getElem?_cons_zero, List.getElem?_cons_succ, List.set_cons_zero, List.set_cons_succ, List.take_length, PV.rens, PV.ren, h1, w1, h2, c19, he, T_wakes, o0, w00] <;> rfl
theorem stamped_yes (u : Nat) (hu : u ≤ 1099511627776) (hbb : body b = true) (hd : domB h s = true) :
    T 8 [sl8 b, .str h, .str s, .int .i64 u] [] = some (.bool true, []) := by
  have fin : ∀ {H : Hp}, evL T 0 q8 [sl8 b, .str h, .str s, .int .i64 u] [] = some (.rt, [.bool true], H) → T 8 [sl8 b, .str h, .str s, .int .i64 u] [] = some (.bool true, []) := fun {H} h =>
    evT_of (k := 0) (F := l8) (H' := H) (e := [.bool true]) (l := [.bool true]) rfl rfl rfl h rfl rfl
  have h1 : ¬ (2000 : Int) < b.length := by omega
  have w1 : IntKind.i64.wrap ((h.length : Int) + s.length) = h.length + s.length := wr (by omega) (by omega)
  have h2 : ¬ (800 : Int) < h.length + s.length := by omega
  have c19 := Put_yes b h s (by omega) (by omega) hbb hd u hu
  obtain ⟨hpb, x, r, e, hsc, hrest⟩ := front hbb hd u
  have hsl := stampB_len h s u hu
  have hpl : (stampB h s u ++ b).length = (stampB h s u).length + b.length := by simp
  have k12 := T12_yes (stampB h s u ++ b) (by omega) hpb
  have k17 := T17_yes (stampB h s u ++ b) (by omega) hpb
  rw [hsc] at k12 k17
  obtain ⟨z, n, L, t, H, htH, c12, hfs, _⟩ := scans b (by omega) hbb
  have hol := (scan_b b (by omega)).2
  have c17 := T17_yes b (by omega) hbb
  generalize stampB h s u = B at *
  have hone : (recd, x) :: r ≠ [] := by simp
  have hops1 : hops ((recd, x) :: r) = hops r + 1 := by
    rw [show (recd, x) :: r = [(recd, x)] ++ r from rfl, hops_app, Nat.add_comm]; rfl
  have f1 : fl ((recd, x) :: r) = .str recd :: .str x :: fl r := by
    rw [show (recd, x) :: r = [(recd, x)] ++ r from rfl, fl_app, fl_one]; rfl
  unfold outR at k12
  rw [if_neg hone, if_neg hone, f1] at k12
  dsimp only at k12 k17
  rw [List.length_cons] at k12
  have g0 : (0 : Int) < ((r.length + 1 : Nat) : Int) := by omega
  have g1 : ¬ ((r.length + 1 : Nat) : Int) = 0 := by omega
  have g2 : 0 < r.length + 1 := by omega
  have hn : (fl ((recd, x) :: r)).length = (r.length + 1) * 2 := fl_len _
  by_cases hbl : ∃ c t', b = c :: t' ∧ (c == 32 || c == 9) = true
  · obtain ⟨c, t', hbc, hcc⟩ := hbl
    have d0 : (0 : Int) < b.length := by rw [hbc]; simp
    have d1 : (b.map b8).take 1 = [b8 c] := by rw [hbc]; rfl
    have e32 : decide ((c.toNat : Int) = 32) = (c == 32) := byte_eqd c 32 (by decide)
    have e9 : decide ((c.toNat : Int) = 9) = (c == 9) := byte_eqd c 9 (by decide)
    rcases htH with ⟨rfl, rfl⟩ | ⟨rfl, rfl⟩ <;> (apply fin; simp only [q8, ← recd_def, evL_op, evL_sel, evL_nx, evL_exit, evL_ret, evL_join, evL_block, evL_cond, evK_some, evJ_nx, evJ_rt, evJ_ex, evB_nx, evB_rt, evB_ex, evC2_bool, evS_and, evS_or, evS_tf, evS_ft, ev_t, ev_s, ev_c, evalOp, bin_add, bin_sub, bin_mul, bin_eql, bin_neq, bin_lss, bin_leq, bin_gtr, bin_geq, sbin_eql, sbin_neq, b8, List.map_cons, List.map_nil, PV.rens, PV.ren, if_true, if_false, Bool.false_eq_true, reduceIte, Nat.reduceAdd, Nat.reduceSub, Nat.reduceMul, Nat.reduceEqDiff, Nat.reduceLeDiff, Int.reduceLE, Int.reduceLT, Int.reduceEq, Int.reduceToNat, Int.reduceAdd, Int.reduceSub, Int.reduceNeg, decide_true, decide_false, Bool.not_true, Bool.not_false, Bool.true_and, Bool.false_and, Bool.and_true, Bool.and_false, Bool.or_true, Bool.true_or, Bool.or_false, Bool.false_or, and_self, and_true, true_and, Nat.le_refl, Nat.zero_add, Nat.mul_one, Nat.one_ne_zero, Nat.zero_le, highP, lowP, Option.map_some, Option.map_none, List.drop_zero, List.take_zero, List.length_cons, List.length_nil, List.nil_append, List.append_nil, List.cons_append, fillP, PV.cells?, PV.one, PV.cleans, PV.clean, PV.of?, List.all_cons, List.all_nil, List.take_succ_cons, List.drop_succ_cons, Bool.and_self, Int.natCast_nonneg, Int.toNat_natCast, Int.toNat_zero, PV.of?, Tk.ren, tailP, evL_loop, or_true, true_or, Nat.zero_lt_one, Nat.sub_zero, List.getElem?_cons_zero, List.getElem?_cons_succ, List.set_cons_zero, List.set_cons_succ, List.take_length, PV.rens, PV.ren, h1, w1, h2, c19, c12, c17, k12, k17, g0, g1, g2, d0, d1, e32, e9, hcc, Nat.zero_mul, (show 0 < 2 by decide), T_wakes, beq_self_eq_true, eq_self, o0, w00] <;> rfl)
  · have hm : ∀ l t, lines b = l :: t → moreB l = false := by
      cases hbc : b with
      | nil => intro l t h0; cases h0
      | cons c t' =>
        rw [← hbc]
        have : (c == 32 || c == 9) = false := by
          cases hx : (c == 32 || c == 9) with
          | false => rfl
          | true => exact absurd ⟨c, t', hbc, hx⟩ hbl
        simp only [Bool.or_eq_false_iff] at this
        exact lines_head hbb hbc this.1 this.2
    obtain ⟨hr, he⟩ := hrest hm
    have hL : hops ((recd, x) :: r) = hops (scanGo [] 0 (lines b)).1 + 1 := by rw [hops1, hr]
    rw [hL] at k17
    rw [he] at k12
    rw [← hr] at hfs c17 k17 hol
    generalize (scanGo [] 0 (lines b)).2 = eb at *
    have hho := hops_le r
    have w2 := wr1 (show hops r < 9223372036854775807 by omega)
    have w3 : IntKind.i64.wrap (((B.length + eb : Nat) : Int) - eb) = (B.length : Int) := by rw [show ((B.length + eb : Nat) : Int) - eb = B.length by omega, wr (by omega) (by omega)]
    have w4 : IntKind.i64.wrap (((B ++ b).length : Int) - b.length) = (B.length : Int) := by rw [show ((B ++ b).length : Int) - b.length = B.length by rw [hpl]; omega, wr (by omega) (by omega)]
    have g3 : (1 : Int) ≤ ((r.length + 1 : Nat) : Int) := by omega
    have g4 : 1 ≤ r.length + 1 := by omega
    have e1 : r.length + 1 - 1 = r.length := by omega
    have c13 := T13 (FS.sl r) hfs (by omega)
    have t1 : (PV.str recd :: .str x :: fl r).take ((r.length + 1) * 2) = PV.str recd :: .str x :: fl r := List.take_of_length_le (by rw [← f1, hn]; omega)
    have tt : (PV.str recd :: .str x :: fl r).drop (1 * 2) = fl r := rfl
    have hnil : b = [] ∨ ∃ c t', b = c :: t' ∧ (c == 32 || c == 9) = false := by
      cases hbc : b with
      | nil => exact .inl rfl
      | cons c t' =>
        refine .inr ⟨c, t', rfl, ?_⟩
        cases hx : (c == 32 || c == 9) with
        | false => rfl
        | true => exact absurd ⟨c, t', hbc, hx⟩ hbl
    rcases hnil with hbn | ⟨c, t', hbc, hcc⟩
    · have d0 : ¬ (0 : Int) < b.length := by rw [hbn]; decide
      rcases htH with ⟨rfl, rfl⟩ | ⟨rfl, rfl⟩ <;> (apply fin; simp only [q8, ← recd_def, evL_op, evL_sel, evL_nx, evL_exit, evL_ret, evL_join, evL_block, evL_cond, evK_some, evJ_nx, evJ_rt, evJ_ex, evB_nx, evB_rt, evB_ex, evC2_bool, evS_and, evS_or, evS_tf, evS_ft, ev_t, ev_s, ev_c, evalOp, bin_add, bin_sub, bin_mul, bin_eql, bin_neq, bin_lss, bin_leq, bin_gtr, bin_geq, sbin_eql, sbin_neq, b8, List.map_cons, List.map_nil, PV.rens, PV.ren, if_true, if_false, Bool.false_eq_true, reduceIte, Nat.reduceAdd, Nat.reduceSub, Nat.reduceMul, Nat.reduceEqDiff, Nat.reduceLeDiff, Int.reduceLE, Int.reduceLT, Int.reduceEq, Int.reduceToNat, Int.reduceAdd, Int.reduceSub, Int.reduceNeg, decide_true, decide_false, Bool.not_true, Bool.not_false, Bool.true_and, Bool.false_and, Bool.and_true, Bool.and_false, Bool.or_true, Bool.true_or, Bool.or_false, Bool.false_or, and_self, and_true, true_and, Nat.le_refl, Nat.zero_add, Nat.mul_one, Nat.one_ne_zero, Nat.zero_le, highP, lowP, Option.map_some, Option.map_none, List.drop_zero, List.take_zero, List.length_cons, List.length_nil, List.nil_append, List.append_nil, List.cons_append, fillP, PV.cells?, PV.one, PV.cleans, PV.clean, PV.of?, List.all_cons, List.all_nil, List.take_succ_cons, List.drop_succ_cons, Bool.and_self, Int.natCast_nonneg, Int.toNat_natCast, Int.toNat_zero, PV.of?, Tk.ren, tailP, evL_loop, or_true, true_or, Nat.zero_lt_one, Nat.sub_zero, List.getElem?_cons_zero, List.getElem?_cons_succ, List.set_cons_zero, List.set_cons_succ, List.take_length, PV.rens, PV.ren, h1, w1, h2, c19, c12, c17, k12, k17, g0, g1, g2, d0, w2, w3, w4, g3, g4, e1, c13, t1, tt, Nat.zero_mul, (show 0 < 2 by decide), T_wakes, beq_self_eq_true, eq_self, o0, o1, w00] <;> rfl)
    · have d0 : (0 : Int) < b.length := by rw [hbc]; simp
      have d1 : (b.map b8).take 1 = [b8 c] := by rw [hbc]; rfl
      have e32 : decide ((c.toNat : Int) = 32) = (c == 32) := byte_eqd c 32 (by decide)
      have e9 : decide ((c.toNat : Int) = 9) = (c == 9) := byte_eqd c 9 (by decide)
      rcases htH with ⟨rfl, rfl⟩ | ⟨rfl, rfl⟩ <;> (apply fin; simp only [q8, ← recd_def, evL_op, evL_sel, evL_nx, evL_exit, evL_ret, evL_join, evL_block, evL_cond, evK_some, evJ_nx, evJ_rt, evJ_ex, evB_nx, evB_rt, evB_ex, evC2_bool, evS_and, evS_or, evS_tf, evS_ft, ev_t, ev_s, ev_c, evalOp, bin_add, bin_sub, bin_mul, bin_eql, bin_neq, bin_lss, bin_leq, bin_gtr, bin_geq, sbin_eql, sbin_neq, b8, List.map_cons, List.map_nil, PV.rens, PV.ren, if_true, if_false, Bool.false_eq_true, reduceIte, Nat.reduceAdd, Nat.reduceSub, Nat.reduceMul, Nat.reduceEqDiff, Nat.reduceLeDiff, Int.reduceLE, Int.reduceLT, Int.reduceEq, Int.reduceToNat, Int.reduceAdd, Int.reduceSub, Int.reduceNeg, decide_true, decide_false, Bool.not_true, Bool.not_false, Bool.true_and, Bool.false_and, Bool.and_true, Bool.and_false, Bool.or_true, Bool.true_or, Bool.or_false, Bool.false_or, and_self, and_true, true_and, Nat.le_refl, Nat.zero_add, Nat.mul_one, Nat.one_ne_zero, Nat.zero_le, highP, lowP, Option.map_some, Option.map_none, List.drop_zero, List.take_zero, List.length_cons, List.length_nil, List.nil_append, List.append_nil, List.cons_append, fillP, PV.cells?, PV.one, PV.cleans, PV.clean, PV.of?, List.all_cons, List.all_nil, List.take_succ_cons, List.drop_succ_cons, Bool.and_self, Int.natCast_nonneg, Int.toNat_natCast, Int.toNat_zero, PV.of?, Tk.ren, tailP, evL_loop, or_true, true_or, Nat.zero_lt_one, Nat.sub_zero, List.getElem?_cons_zero, List.getElem?_cons_succ, List.set_cons_zero, List.set_cons_succ, List.take_length, PV.rens, PV.ren, h1, w1, h2, c19, c12, c17, k12, k17, g0, g1, g2, d0, d1, e32, e9, hcc, w2, w3, w4, g3, g4, e1, c13, t1, tt, Nat.zero_mul, (show 0 < 2 by decide), T_wakes, beq_self_eq_true, eq_self, o0, o1, w00] <;> rfl)
end
theorem lawHeadStamped (b : List UInt8) (hb : b.length ≤ room ∧ ∀ y ∈ b, True) (h : List UInt8) (hh : h.length ≤ room) (s : List UInt8) (hs : s.length ≤ room) (a : Int) (ha : (Lit.int .i64 a).wf = true) :
    evT lt ov 8 [.sl .no 1 b.length (b.map b8), .str h, .str s, .int .i64 a] [] = some (.bool true, []) := by
  obtain ⟨hb, _⟩ := hb
  show T 8 [sl8 b, .str h, .str s, .int .i64 a] [] = _
  have fin : ∀ {H : Hp}, evL T 0 q8 [sl8 b, .str h, .str s, .int .i64 a] [] = some (.rt, [.bool true], H) → T 8 [sl8 b, .str h, .str s, .int .i64 a] [] = some (.bool true, []) := fun {H} h =>
    evT_of (k := 0) (F := l8) (H' := H) (e := [.bool true]) (l := [.bool true]) rfl rfl rfl h rfl rfl
  by_cases h1 : (2000 : Int) < b.length
  · apply fin
    simp only [q8, evL_op, evL_sel, evL_nx, evL_exit, evL_ret, evL_join, evL_block, evL_cond, evK_some, evJ_nx, evJ_rt, evJ_ex, evB_nx, evB_rt, evB_ex, evC2_bool, evS_and, evS_or, evS_tf, evS_ft, ev_t, ev_s, ev_c, evalOp, bin_add, bin_sub, bin_mul, bin_eql, bin_neq, bin_lss, bin_leq, bin_gtr, bin_geq, sbin_eql, sbin_neq, b8, List.map_cons, List.map_nil, PV.rens, PV.ren, if_true, if_false, Bool.false_eq_true, reduceIte, Nat.reduceAdd, Nat.reduceSub, Nat.reduceMul, Nat.reduceEqDiff, Nat.reduceLeDiff, Int.reduceLE, Int.reduceLT, Int.reduceEq, Int.reduceToNat, Int.reduceAdd, Int.reduceSub, Int.reduceNeg, decide_true, decide_false, Bool.not_true, Bool.not_false, Bool.true_and, Bool.false_and, Bool.and_true, Bool.and_false, Bool.or_true, Bool.true_or, Bool.or_false, Bool.false_or, and_self, and_true, true_and, Nat.le_refl, Nat.zero_add, Nat.mul_one, Nat.one_ne_zero, Nat.zero_le, highP, lowP, Option.map_some, Option.map_none, List.drop_zero, List.take_zero, List.length_cons, List.length_nil, List.nil_append, List.append_nil, List.cons_append, fillP, PV.cells?, PV.one, PV.cleans, PV.clean, PV.of?, List.all_cons, List.all_nil, List.take_succ_cons, List.drop_succ_cons, Bool.and_self, Int.natCast_nonneg, Int.toNat_natCast, Int.toNat_zero, PV.of?, Tk.ren, tailP, evL_loop, or_true, true_or, Nat.zero_lt_one, Nat.sub_zero, List.getElem?_cons_zero, List.getElem?_cons_succ, List.set_cons_zero, List.set_cons_succ, List.take_length, h1] <;> rfl
  have w1 : IntKind.i64.wrap ((h.length : Int) + s.length) = h.length + s.length := wr (by omega) (by unfold room at *; omega)
  by_cases h2 : (800 : Int) < h.length + s.length
  · apply fin
    simp only [q8, evL_op, evL_sel, evL_nx, evL_exit, evL_ret, evL_join, evL_block, evL_cond, evK_some, evJ_nx, evJ_rt, evJ_ex, evB_nx, evB_rt, evB_ex, evC2_bool, evS_and, evS_or, evS_tf, evS_ft, ev_t, ev_s, ev_c, evalOp, bin_add, bin_sub, bin_mul, bin_eql, bin_neq, bin_lss, bin_leq, bin_gtr, bin_geq, sbin_eql, sbin_neq, b8, List.map_cons, List.map_nil, PV.rens, PV.ren, if_true, if_false, Bool.false_eq_true, reduceIte, Nat.reduceAdd, Nat.reduceSub, Nat.reduceMul, Nat.reduceEqDiff, Nat.reduceLeDiff, Int.reduceLE, Int.reduceLT, Int.reduceEq, Int.reduceToNat, Int.reduceAdd, Int.reduceSub, Int.reduceNeg, decide_true, decide_false, Bool.not_true, Bool.not_false, Bool.true_and, Bool.false_and, Bool.and_true, Bool.and_false, Bool.or_true, Bool.true_or, Bool.or_false, Bool.false_or, and_self, and_true, true_and, Nat.le_refl, Nat.zero_add, Nat.mul_one, Nat.one_ne_zero, Nat.zero_le, highP, lowP, Option.map_some, Option.map_none, List.drop_zero, List.take_zero, List.length_cons, List.length_nil, List.nil_append, List.append_nil, List.cons_append, fillP, PV.cells?, PV.one, PV.cleans, PV.clean, PV.of?, List.all_cons, List.all_nil, List.take_succ_cons, List.drop_succ_cons, Bool.and_self, Int.natCast_nonneg, Int.toNat_natCast, Int.toNat_zero, PV.of?, Tk.ren, tailP, evL_loop, or_true, true_or, Nat.zero_lt_one, Nat.sub_zero, List.getElem?_cons_zero, List.getElem?_cons_succ, List.set_cons_zero, List.set_cons_succ, List.take_length, h1, w1, h2] <;> rfl
  cases hbb : body b with
  | false => exact stamped_no b h s (by omega) (by omega) a 5 (by decide) (Put_body b h s (by omega) (by omega) hbb a)
  | true =>
    cases hd : domB h s with
    | false => exact stamped_no b h s (by omega) (by omega) a 5 (by decide) (Put_stamp b h s (by omega) (by omega) hbb a 5 (by decide) (Stamp_dom h s (by omega) hd a))
    | true =>
      by_cases ht : a < 0 ∨ 1099511627776 < a
      · exact stamped_no b h s (by omega) (by omega) a 1 (by decide) (Put_stamp b h s (by omega) (by omega) hbb a 1 (by decide) (Stamp_time h s (by omega) hd a ht))
      · obtain ⟨u, rfl⟩ : ∃ u : Nat, a = u := ⟨a.toNat, by omega⟩
        exact stamped_yes b h s (by omega) (by omega) u (by omega) hbb hd
end Go.Proofs.YtmdnloajpjfbmaaDoor.Tab
