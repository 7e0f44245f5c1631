/- HeadExact: it is true. -/
import Derived.Test.YtmdnloajpjfbmaaDoorSc
namespace Go.Proofs.YtmdnloajpjfbmaaDoor.Tab
set_option linter.all false
open Go Go.RowKit Go.Proofs.YtmdnloajpjfbmaaDoor.Ev
theorem w00 : IntKind.i64.wrap 0 = 0 := rfl
theorem scans (b : List UInt8) (hb : b.length ≤ 1000000000) (h : body b = true) : ∃ (z n : Nat) (L : List PV) (t : Tk) (H : Hp), (t = .tok 0 ∧ H = [.tok] ∨ t = .no ∧ H = []) ∧
    T 12 [sl8 b] [] = some (.tup [.sl t z n L, .int .i64 (scanGo [] 0 (lines b)).2, .int .i64 0], H) ∧ FS (.sl .no z n L) (scanGo [] 0 (lines b)).1 ∧ T 22 [sl8 b] [] = some (.tup [.sl t z n L, .int .i64 (scanGo [] 0 (lines b)).2], H) := by
  have c1 := T12_yes b hb h
  have c2 := T22 b hb
  generalize (scanGo [] 0 (lines b)).1 = o at *
  generalize (scanGo [] 0 (lines b)).2 = e at *
  by_cases ho : o = []
  · subst ho
    exact ⟨0, 0, [], .tok 0, [.tok], .inl ⟨rfl, rfl⟩, c1, FS.none 0, c2⟩
  · unfold outR at c1 c2
    rw [if_neg ho, if_neg ho] at c1 c2
    exact ⟨2, _, _, .no, [], .inr ⟨rfl, rfl⟩, c1, FS.sl o, c2⟩
section
variable (b h s : List UInt8) (hb : b.length ≤ 2000) (hl : h.length + s.length ≤ 800)
include hb hl
theorem exact_no (a e : Int) (he : e = 5 ∧ domB h s = false ∨ e = 1 ∧ domB h s = true ∧ (a < 0 ∨ 1099511627776 < a)) (c18 : T 18 [.str h, .str s, .int .i64 a] [] = some (.tup [.sl .nil 0 0 [], .int .i64 e], [])) :
    T 7 [sl8 b, .str h, .str s, .int .i64 a] [] = some (.bool true, []) := by
  have fin : ∀ {H : Hp}, evL T 0 q7 [sl8 b, .str h, .str s, .int .i64 a] [] = some (.rt, [.bool true], H) → T 7 [sl8 b, .str h, .str s, .int .i64 a] [] = some (.bool true, []) := fun {H} h =>
    evT_of (k := 0) (F := l7) (H' := H) (e := [.bool true]) (l := [.bool true]) rfl rfl rfl h rfl rfl
  have h1 : ¬ (2000 : Int) < b.length := by omega
  have w1 : IntKind.i64.wrap ((h.length : Int) + s.length) = h.length + s.length := wr (by omega) (by omega)
  have h2 : ¬ (800 : Int) < h.length + s.length := by omega
  have c15 := T15 (BS.sl b) (by omega)
  have d1 := T20 h (by omega)
  have d2 := T20 s (by omega)
  have c16 := T_bytes8 b b (by omega)
  have c9 := T9 b (by omega)
  have hwant : ∀ {P : Prop}, ((∀ x y, parts h 255 label = x → parts s 255 label = y → e = 5 → (x && y) = false → P) → (parts h 255 label = true → parts s 255 label = true → e = 1 → a < 0 → P) → (parts h 255 label = true → parts s 255 label = true → e = 1 → ¬ a < 0 → 1099511627776 < a → P) → P) := fun k1 k2 k3 => by
    rcases he with ⟨h1, h2⟩ | ⟨h1, h2, h3⟩
    · exact k1 _ _ rfl rfl h1 h2
    · unfold domB at h2
      simp only [Bool.and_eq_true] at h2
      by_cases ha : a < 0
      · exact k2 h2.1 h2.2 h1 ha
      · exact k3 h2.1 h2.2 h1 ha (by omega)
  have he0 : ¬ e = 0 := by rcases he with ⟨h1, _⟩ | ⟨h1, _⟩ <;> omega
  cases hbb : body b with
  | false =>
    rw [hbb] at c9
    have c12 := T12_no b (by omega) hbb
    have c17 := T17_no b (by omega) hbb
    have c19 := Put_body b h s (by omega) (by omega) hbb a
    apply fin
    apply hwant
    · rintro x y hx hy rfl hxy
      rw [hx] at d1; rw [hy] at d2
      cases x <;> cases y <;> first | cases hxy | skip
      all_goals simp only [q7, q7_0, evL_op, evL_sel, evL_nx, evL_exit, evL_ret, evL_join, evL_block, evL_cond, evK_some, evJ_nx, evJ_rt, evJ_ex, evB_nx, evB_rt, evB_ex, evC2_bool, evS_and, evS_or, evS_tf, evS_ft, ev_t, ev_s, ev_c, evalOp, bin_add, bin_sub, bin_mul, bin_eql, bin_neq, bin_lss, bin_leq, bin_gtr, bin_geq, sbin_eql, sbin_neq, b8, List.map_cons, List.map_nil, PV.rens, PV.ren, if_true, if_false, Bool.false_eq_true, reduceIte, Nat.reduceAdd, Nat.reduceSub, Nat.reduceMul, Nat.reduceEqDiff, Nat.reduceLeDiff, Int.reduceLE, Int.reduceLT, Int.reduceEq, Int.reduceToNat, Int.reduceAdd, Int.reduceSub, Int.reduceNeg, decide_true, decide_false, Bool.not_true, Bool.not_false, Bool.true_and, Bool.false_and, Bool.and_true, Bool.and_false, Bool.or_true, Bool.true_or, Bool.or_false, Bool.false_or, and_self, and_true, true_and, Nat.le_refl, Nat.zero_add, Nat.mul_one, Nat.one_ne_zero, Nat.zero_le, highP, lowP, Option.map_some, Option.map_none, List.drop_zero, List.take_zero, List.length_cons, List.length_nil, List.nil_append, List.append_nil, List.cons_append, fillP, PV.cells?, PV.one, PV.cleans, PV.clean, PV.of?, List.all_cons, List.all_nil, List.take_succ_cons, List.drop_succ_cons, Bool.and_self, Int.natCast_nonneg, Int.toNat_natCast, Int.toNat_zero, PV.of?, Tk.ren, tailP, evL_loop, or_true, true_or, Nat.zero_lt_one, Nat.sub_zero, List.getElem?_cons_zero, List.getElem?_cons_succ, List.set_cons_zero, List.set_cons_succ, List.take_length, PV.rens, PV.ren, h1, w1, h2, c15, d1, d2, c16, c9, c12, c17, c18, c19, T_wakes, beq_self_eq_true, eq_self, o0, w00, Int.lt_irrefl] <;> rfl
    · rintro hx hy rfl ha
      rw [hx] at d1; rw [hy] at d2
      simp only [q7, q7_0, evL_op, evL_sel, evL_nx, evL_exit, evL_ret, evL_join, evL_block, evL_cond, evK_some, evJ_nx, evJ_rt, evJ_ex, evB_nx, evB_rt, evB_ex, evC2_bool, evS_and, evS_or, evS_tf, evS_ft, ev_t, ev_s, ev_c, evalOp, bin_add, bin_sub, bin_mul, bin_eql, bin_neq, bin_lss, bin_leq, bin_gtr, bin_geq, sbin_eql, sbin_neq, b8, List.map_cons, List.map_nil, PV.rens, PV.ren, if_true, if_false, Bool.false_eq_true, reduceIte, Nat.reduceAdd, Nat.reduceSub, Nat.reduceMul, Nat.reduceEqDiff, Nat.reduceLeDiff, Int.reduceLE, Int.reduceLT, Int.reduceEq, Int.reduceToNat, Int.reduceAdd, Int.reduceSub, Int.reduceNeg, decide_true, decide_false, Bool.not_true, Bool.not_false, Bool.true_and, Bool.false_and, Bool.and_true, Bool.and_false, Bool.or_true, Bool.true_or, Bool.or_false, Bool.false_or, and_self, and_true, true_and, Nat.le_refl, Nat.zero_add, Nat.mul_one, Nat.one_ne_zero, Nat.zero_le, highP, lowP, Option.map_some, Option.map_none, List.drop_zero, List.take_zero, List.length_cons, List.length_nil, List.nil_append, List.append_nil, List.cons_append, fillP, PV.cells?, PV.one, PV.cleans, PV.clean, PV.of?, List.all_cons, List.all_nil, List.take_succ_cons, List.drop_succ_cons, Bool.and_self, Int.natCast_nonneg, Int.toNat_natCast, Int.toNat_zero, PV.of?, Tk.ren, tailP, evL_loop, or_true, true_or, Nat.zero_lt_one, Nat.sub_zero, List.getElem?_cons_zero, List.getElem?_cons_succ, List.set_cons_zero, List.set_cons_succ, List.take_length, PV.rens, PV.ren, h1, w1, h2, c15, d1, d2, c16, c9, c12, c17, c18, c19, T_wakes, beq_self_eq_true, eq_self, o0, w00, ha, Int.lt_irrefl] <;> rfl
    · rintro hx hy rfl ha ha2
      rw [hx] at d1; rw [hy] at d2
      simp only [q7, q7_0, evL_op, evL_sel, evL_nx, evL_exit, evL_ret, evL_join, evL_block, evL_cond, evK_some, evJ_nx, evJ_rt, evJ_ex, evB_nx, evB_rt, evB_ex, evC2_bool, evS_and, evS_or, evS_tf, evS_ft, ev_t, ev_s, ev_c, evalOp, bin_add, bin_sub, bin_mul, bin_eql, bin_neq, bin_lss, bin_leq, bin_gtr, bin_geq, sbin_eql, sbin_neq, b8, List.map_cons, List.map_nil, PV.rens, PV.ren, if_true, if_false, Bool.false_eq_true, reduceIte, Nat.reduceAdd, Nat.reduceSub, Nat.reduceMul, Nat.reduceEqDiff, Nat.reduceLeDiff, Int.reduceLE, Int.reduceLT, Int.reduceEq, Int.reduceToNat, Int.reduceAdd, Int.reduceSub, Int.reduceNeg, decide_true, decide_false, Bool.not_true, Bool.not_false, Bool.true_and, Bool.false_and, Bool.and_true, Bool.and_false, Bool.or_true, Bool.true_or, Bool.or_false, Bool.false_or, and_self, and_true, true_and, Nat.le_refl, Nat.zero_add, Nat.mul_one, Nat.one_ne_zero, Nat.zero_le, highP, lowP, Option.map_some, Option.map_none, List.drop_zero, List.take_zero, List.length_cons, List.length_nil, List.nil_append, List.append_nil, List.cons_append, fillP, PV.cells?, PV.one, PV.cleans, PV.clean, PV.of?, List.all_cons, List.all_nil, List.take_succ_cons, List.drop_succ_cons, Bool.and_self, Int.natCast_nonneg, Int.toNat_natCast, Int.toNat_zero, PV.of?, Tk.ren, tailP, evL_loop, or_true, true_or, Nat.zero_lt_one, Nat.sub_zero, List.getElem?_cons_zero, List.getElem?_cons_succ, List.set_cons_zero, List.set_cons_succ, List.take_length, PV.rens, PV.ren, h1, w1, h2, c15, d1, d2, c16, c9, c12, c17, c18, c19, T_wakes, beq_self_eq_true, eq_self, o0, w00, ha, ha2, Int.lt_irrefl] <;> rfl
  | true =>
    rw [hbb] at c9
    obtain ⟨z, n, L, t, H, htH, c12, hfs, c22⟩ := scans b (by omega) hbb
    have hol := (scan_b b (by omega)).2
    have c13 := T13 hfs hfs (by omega)
    have c17 := T17_yes b (by omega) hbb
    have c23 := T23 b (by omega)
    have c19 := Put_stamp b h s (by omega) (by omega) hbb a e he0 c18
    apply fin
    apply hwant
    · rintro x y hx hy rfl hxy
      rw [hx] at d1; rw [hy] at d2
      rcases htH with ⟨rfl, rfl⟩ | ⟨rfl, rfl⟩ <;> cases x <;> cases y <;> first | cases hxy | skip
      all_goals simp only [q7, q7_0, evL_op, evL_sel, evL_nx, evL_exit, evL_ret, evL_join, evL_block, evL_cond, evK_some, evJ_nx, evJ_rt, evJ_ex, evB_nx, evB_rt, evB_ex, evC2_bool, evS_and, evS_or, evS_tf, evS_ft, ev_t, ev_s, ev_c, evalOp, bin_add, bin_sub, bin_mul, bin_eql, bin_neq, bin_lss, bin_leq, bin_gtr, bin_geq, sbin_eql, sbin_neq, b8, List.map_cons, List.map_nil, PV.rens, PV.ren, if_true, if_false, Bool.false_eq_true, reduceIte, Nat.reduceAdd, Nat.reduceSub, Nat.reduceMul, Nat.reduceEqDiff, Nat.reduceLeDiff, Int.reduceLE, Int.reduceLT, Int.reduceEq, Int.reduceToNat, Int.reduceAdd, Int.reduceSub, Int.reduceNeg, decide_true, decide_false, Bool.not_true, Bool.not_false, Bool.true_and, Bool.false_and, Bool.and_true, Bool.and_false, Bool.or_true, Bool.true_or, Bool.or_false, Bool.false_or, and_self, and_true, true_and, Nat.le_refl, Nat.zero_add, Nat.mul_one, Nat.one_ne_zero, Nat.zero_le, highP, lowP, Option.map_some, Option.map_none, List.drop_zero, List.take_zero, List.length_cons, List.length_nil, List.nil_append, List.append_nil, List.cons_append, fillP, PV.cells?, PV.one, PV.cleans, PV.clean, PV.of?, List.all_cons, List.all_nil, List.take_succ_cons, List.drop_succ_cons, Bool.and_self, Int.natCast_nonneg, Int.toNat_natCast, Int.toNat_zero, PV.of?, Tk.ren, tailP, evL_loop, or_true, true_or, Nat.zero_lt_one, Nat.sub_zero, List.getElem?_cons_zero, List.getElem?_cons_succ, List.set_cons_zero, List.set_cons_succ, List.take_length, PV.rens, PV.ren, h1, w1, h2, c15, d1, d2, c16, c9, c12, c13, c17, c18, c19, c22, c23, T_wakes, beq_self_eq_true, eq_self, o0, w00, Int.lt_irrefl] <;> rfl
    · rintro hx hy rfl ha
      rw [hx] at d1; rw [hy] at d2
      rcases htH with ⟨rfl, rfl⟩ | ⟨rfl, rfl⟩ <;> simp only [q7, q7_0, evL_op, evL_sel, evL_nx, evL_exit, evL_ret, evL_join, evL_block, evL_cond, evK_some, evJ_nx, evJ_rt, evJ_ex, evB_nx, evB_rt, evB_ex, evC2_bool, evS_and, evS_or, evS_tf, evS_ft, ev_t, ev_s, ev_c, evalOp, bin_add, bin_sub, bin_mul, bin_eql, bin_neq, bin_lss, bin_leq, bin_gtr, bin_geq, sbin_eql, sbin_neq, b8, List.map_cons, List.map_nil, PV.rens, PV.ren, if_true, if_false, Bool.false_eq_true, reduceIte, Nat.reduceAdd, Nat.reduceSub, Nat.reduceMul, Nat.reduceEqDiff, Nat.reduceLeDiff, Int.reduceLE, Int.reduceLT, Int.reduceEq, Int.reduceToNat, Int.reduceAdd, Int.reduceSub, Int.reduceNeg, decide_true, decide_false, Bool.not_true, Bool.not_false, Bool.true_and, Bool.false_and, Bool.and_true, Bool.and_false, Bool.or_true, Bool.true_or, Bool.or_false, Bool.false_or, and_self, and_true, true_and, Nat.le_refl, Nat.zero_add, Nat.mul_one, Nat.one_ne_zero, Nat.zero_le, highP, lowP, Option.map_some, Option.map_none, List.drop_zero, List.take_zero, List.length_cons, List.length_nil, List.nil_append, List.append_nil, List.cons_append, fillP, PV.cells?, PV.one, PV.cleans, PV.clean, PV.of?, List.all_cons, List.all_nil, List.take_succ_cons, List.drop_succ_cons, Bool.and_self, Int.natCast_nonneg, Int.toNat_natCast, Int.toNat_zero, PV.of?, Tk.ren, tailP, evL_loop, or_true, true_or, Nat.zero_lt_one, Nat.sub_zero, List.getElem?_cons_zero, List.getElem?_cons_succ, List.set_cons_zero, List.set_cons_succ, List.take_length, PV.rens, PV.ren, h1, w1, h2, c15, d1, d2, c16, c9, c12, c13, c17, c18, c19, c22, c23, T_wakes, beq_self_eq_true, eq_self, o0, w00, ha, Int.lt_irrefl] <;> rfl
    · rintro hx hy rfl ha ha2
      rw [hx] at d1; rw [hy] at d2
      rcases htH with ⟨rfl, rfl⟩ | ⟨rfl, rfl⟩ <;> simp only [q7, q7_0, evL_op, evL_sel, evL_nx, evL_exit, evL_ret, evL_join, evL_block, evL_cond, evK_some, evJ_nx, evJ_rt, evJ_ex, evB_nx, evB_rt, evB_ex, evC2_bool, evS_and, evS_or, evS_tf, evS_ft, ev_t, ev_s, ev_c, evalOp, bin_add, bin_sub, bin_mul, bin_eql, bin_neq, bin_lss, bin_leq, bin_gtr, bin_geq, sbin_eql, sbin_neq, b8, List.map_cons, List.map_nil, PV.rens, PV.ren, if_true, if_false, Bool.false_eq_true, reduceIte, Nat.reduceAdd, Nat.reduceSub, Nat.reduceMul, Nat.reduceEqDiff, Nat.reduceLeDiff, Int.reduceLE, Int.reduceLT, Int.reduceEq, Int.reduceToNat, Int.reduceAdd, Int.reduceSub, Int.reduceNeg, decide_true, decide_false, Bool.not_true, Bool.not_false, Bool.true_and, Bool.false_and, Bool.and_true, Bool.and_false, Bool.or_true, Bool.true_or, Bool.or_false, Bool.false_or, and_self, and_true, true_and, Nat.le_refl, Nat.zero_add, Nat.mul_one, Nat.one_ne_zero, Nat.zero_le, highP, lowP, Option.map_some, Option.map_none, List.drop_zero, List.take_zero, List.length_cons, List.length_nil, List.nil_append, List.append_nil, List.cons_append, fillP, PV.cells?, PV.one, PV.cleans, PV.clean, PV.of?, List.all_cons, List.all_nil, List.take_succ_cons, List.drop_succ_cons, Bool.and_self, Int.natCast_nonneg, Int.toNat_natCast, Int.toNat_zero, PV.of?, Tk.ren, tailP, evL_loop, or_true, true_or, Nat.zero_lt_one, Nat.sub_zero, List.getElem?_cons_zero, List.getElem?_cons_succ, List.set_cons_zero, List.set_cons_succ, List.take_length, PV.rens, PV.ren, h1, w1, h2, c15, d1, d2, c16, c9, c12, c13, c17, c18, c19, c22, c23, T_wakes, beq_self_eq_true, eq_self, o0, w00, ha, ha2, Int.lt_irrefl] <;> rfl
theorem exact_yes (u : Nat) (hu : u ≤ 1099511627776) (hd : domB h s = true) :
    T 7 [sl8 b, .str h, .str s, .int .i64 u] [] = some (.bool true, []) := by
  have fin : ∀ {H : Hp}, evL T 0 q7 [sl8 b, .str h, .str s, .int .i64 u] [] = some (.rt, [.bool true], H) → T 7 [sl8 b, .str h, .str s, .int .i64 u] [] = some (.bool true, []) := fun {H} h =>
    evT_of (k := 0) (F := l7) (H' := H) (e := [.bool true]) (l := [.bool true]) rfl rfl rfl h rfl rfl
  have h1 : ¬ (2000 : Int) < b.length := by omega
  have w1 : IntKind.i64.wrap ((h.length : Int) + s.length) = h.length + s.length := wr (by omega) (by omega)
  have h2 : ¬ (800 : Int) < h.length + s.length := by omega
  have c15 := T15 (BS.sl b) (by omega)
  have d1 := T20 h (by omega)
  have d2 := T20 s (by omega)
  have c16 := T_bytes8 b b (by omega)
  have c9 := T9 b (by omega)
  have c18 := Stamp_yes h s (by omega) hd u hu
  have c21 := T21 h s (by omega) u hu
  have hsl := stampB_len h s u hu
  have hpy := fun hbb => Put_yes b h s (by omega) (by omega) hbb hd u hu
  generalize stampB h s u = B at *
  have c16B := T_bytes8 B B (by omega)
  have c15B := T15 (BS.sl B) (by omega)
  have hr : B.length + b.length ≤ roomMax := by unfold roomMax; omega
  unfold domB at hd
  simp only [Bool.and_eq_true] at hd
  rw [hd.1] at d1
  rw [hd.2] at d2
  have a1 : ¬ (u : Int) < 0 := by omega
  have a2 : ¬ (1099511627776 : Int) < u := by omega
  cases hbb : body b with
  | false =>
    apply fin
    rw [hbb] at c9
    have c12 := T12_no b (by omega) hbb
    have c17 := T17_no b (by omega) hbb
    have c19 := Put_body b h s (by omega) (by omega) hbb u
    simp only [q7, q7_0, evL_op, evL_sel, evL_nx, evL_exit, evL_ret, evL_join, evL_block, evL_cond, evK_some, evJ_nx, evJ_rt, evJ_ex, evB_nx, evB_rt, evB_ex, evC2_bool, evS_and, evS_or, evS_tf, evS_ft, ev_t, ev_s, ev_c, evalOp, bin_add, bin_sub, bin_mul, bin_eql, bin_neq, bin_lss, bin_leq, bin_gtr, bin_geq, sbin_eql, sbin_neq, b8, List.map_cons, List.map_nil, PV.rens, PV.ren, if_true, if_false, Bool.false_eq_true, reduceIte, Nat.reduceAdd, Nat.reduceSub, Nat.reduceMul, Nat.reduceEqDiff, Nat.reduceLeDiff, Int.reduceLE, Int.reduceLT, Int.reduceEq, Int.reduceToNat, Int.reduceAdd, Int.reduceSub, Int.reduceNeg, decide_true, decide_false, Bool.not_true, Bool.not_false, Bool.true_and, Bool.false_and, Bool.and_true, Bool.and_false, Bool.or_true, Bool.true_or, Bool.or_false, Bool.false_or, and_self, and_true, true_and, Nat.le_refl, Nat.zero_add, Nat.mul_one, Nat.one_ne_zero, Nat.zero_le, highP, lowP, Option.map_some, Option.map_none, List.drop_zero, List.take_zero, List.length_cons, List.length_nil, List.nil_append, List.append_nil, List.cons_append, fillP, PV.cells?, PV.one, PV.cleans, PV.clean, PV.of?, List.all_cons, List.all_nil, List.take_succ_cons, List.drop_succ_cons, Bool.and_self, Int.natCast_nonneg, Int.toNat_natCast, Int.toNat_zero, PV.of?, Tk.ren, tailP, evL_loop, or_true, true_or, Nat.zero_lt_one, Nat.sub_zero, List.getElem?_cons_zero, List.getElem?_cons_succ, List.set_cons_zero, List.set_cons_succ, List.take_length, PV.rens, PV.ren, h1, w1, h2, c15, d1, d2, c16, c9, c12, c17, c18, c19, c21, c16B, a1, a2, T_wakes, beq_self_eq_true, eq_self, o0, w00, Int.lt_irrefl] <;> rfl
  | true =>
    apply fin
    rw [hbb] at c9
    obtain ⟨z, n, L, t, H, htH, c12, hfs, c22⟩ := scans b (by omega) hbb
    have hol := (scan_b b (by omega)).2
    have c13 := T13 hfs hfs (by omega)
    have c17 := T17_yes b (by omega) hbb
    have c23 := T23 b (by omega)
    have c19 := hpy hbb
    have c16P := T_bytes8 (B ++ b) (B ++ b) (by rw [List.length_append]; omega)
    unfold sl8 at c16P c19
    rw [List.map_append, List.length_append] at c16P c19
    rcases htH with ⟨rfl, rfl⟩ | ⟨rfl, rfl⟩ <;> simp only [q7, q7_0, evL_op, evL_sel, evL_nx, evL_exit, evL_ret, evL_join, evL_block, evL_cond, evK_some, evJ_nx, evJ_rt, evJ_ex, evB_nx, evB_rt, evB_ex, evC2_bool, evS_and, evS_or, evS_tf, evS_ft, ev_t, ev_s, ev_c, evalOp, bin_add, bin_sub, bin_mul, bin_eql, bin_neq, bin_lss, bin_leq, bin_gtr, bin_geq, sbin_eql, sbin_neq, b8, List.map_cons, List.map_nil, PV.rens, PV.ren, if_true, if_false, Bool.false_eq_true, reduceIte, Nat.reduceAdd, Nat.reduceSub, Nat.reduceMul, Nat.reduceEqDiff, Nat.reduceLeDiff, Int.reduceLE, Int.reduceLT, Int.reduceEq, Int.reduceToNat, Int.reduceAdd, Int.reduceSub, Int.reduceNeg, decide_true, decide_false, Bool.not_true, Bool.not_false, Bool.true_and, Bool.false_and, Bool.and_true, Bool.and_false, Bool.or_true, Bool.true_or, Bool.or_false, Bool.false_or, and_self, and_true, true_and, Nat.le_refl, Nat.zero_add, Nat.mul_one, Nat.one_ne_zero, Nat.zero_le, highP, lowP, Option.map_some, Option.map_none, List.drop_zero, List.take_zero, List.length_cons, List.length_nil, List.nil_append, List.append_nil, List.cons_append, fillP, PV.cells?, PV.one, PV.cleans, PV.clean, PV.of?, List.all_cons, List.all_nil, List.take_succ_cons, List.drop_succ_cons, Bool.and_self, Int.natCast_nonneg, Int.toNat_natCast, Int.toNat_zero, PV.of?, Tk.ren, tailP, evL_loop, or_true, true_or, Nat.zero_lt_one, Nat.sub_zero, List.getElem?_cons_zero, List.getElem?_cons_succ, List.set_cons_zero, List.set_cons_succ, List.take_length, PV.rens, PV.ren, h1, w1, h2, c15, d1, d2, c16, c9, c12, c13, c17, c18, c19, c21, c22, c23, c16B, c15B, c16P, hr, shift, Nat.add_zero, evS_yes, evS1_nx, a1, a2, T_wakes, beq_self_eq_true, eq_self, o0, w00, Int.lt_irrefl] <;> rfl
end
theorem lawHeadExact (b : List UInt8) (hb : b.length ≤ room ∧ ∀ y ∈ b, True) (h : List UInt8) (hh : h.length ≤ room) (s : List UInt8) (hs : s.length ≤ room) (a : Int) (ha : (Lit.int .i64 a).wf = true) :
    evT lt ov 7 [.sl .no 1 b.length (b.map b8), .str h, .str s, .int .i64 a] [] = some (.bool true, []) := by
  obtain ⟨hb, _⟩ := hb
  show T 7 [sl8 b, .str h, .str s, .int .i64 a] [] = _
  have fin : ∀ {H : Hp}, evL T 0 q7 [sl8 b, .str h, .str s, .int .i64 a] [] = some (.rt, [.bool true], H) → T 7 [sl8 b, .str h, .str s, .int .i64 a] [] = some (.bool true, []) := fun {H} h =>
    evT_of (k := 0) (F := l7) (H' := H) (e := [.bool true]) (l := [.bool true]) rfl rfl rfl h rfl rfl
  by_cases h1 : (2000 : Int) < b.length
  · apply fin
    simp only [q7, evL_op, evL_sel, evL_nx, evL_exit, evL_ret, evL_join, evL_block, evL_cond, evK_some, evJ_nx, evJ_rt, evJ_ex, evB_nx, evB_rt, evB_ex, evC2_bool, evS_and, evS_or, evS_tf, evS_ft, ev_t, ev_s, ev_c, evalOp, bin_add, bin_sub, bin_mul, bin_eql, bin_neq, bin_lss, bin_leq, bin_gtr, bin_geq, sbin_eql, sbin_neq, b8, List.map_cons, List.map_nil, PV.rens, PV.ren, if_true, if_false, Bool.false_eq_true, reduceIte, Nat.reduceAdd, Nat.reduceSub, Nat.reduceMul, Nat.reduceEqDiff, Nat.reduceLeDiff, Int.reduceLE, Int.reduceLT, Int.reduceEq, Int.reduceToNat, Int.reduceAdd, Int.reduceSub, Int.reduceNeg, decide_true, decide_false, Bool.not_true, Bool.not_false, Bool.true_and, Bool.false_and, Bool.and_true, Bool.and_false, Bool.or_true, Bool.true_or, Bool.or_false, Bool.false_or, and_self, and_true, true_and, Nat.le_refl, Nat.zero_add, Nat.mul_one, Nat.one_ne_zero, Nat.zero_le, highP, lowP, Option.map_some, Option.map_none, List.drop_zero, List.take_zero, List.length_cons, List.length_nil, List.nil_append, List.append_nil, List.cons_append, fillP, PV.cells?, PV.one, PV.cleans, PV.clean, PV.of?, List.all_cons, List.all_nil, List.take_succ_cons, List.drop_succ_cons, Bool.and_self, Int.natCast_nonneg, Int.toNat_natCast, Int.toNat_zero, PV.of?, Tk.ren, tailP, evL_loop, or_true, true_or, Nat.zero_lt_one, Nat.sub_zero, List.getElem?_cons_zero, List.getElem?_cons_succ, List.set_cons_zero, List.set_cons_succ, List.take_length, h1] <;> rfl
  have w1 : IntKind.i64.wrap ((h.length : Int) + s.length) = h.length + s.length := wr (by omega) (by unfold room at *; omega)
  by_cases h2 : (800 : Int) < h.length + s.length
  · apply fin
    simp only [q7, evL_op, evL_sel, evL_nx, evL_exit, evL_ret, evL_join, evL_block, evL_cond, evK_some, evJ_nx, evJ_rt, evJ_ex, evB_nx, evB_rt, evB_ex, evC2_bool, evS_and, evS_or, evS_tf, evS_ft, ev_t, ev_s, ev_c, evalOp, bin_add, bin_sub, bin_mul, bin_eql, bin_neq, bin_lss, bin_leq, bin_gtr, bin_geq, sbin_eql, sbin_neq, b8, List.map_cons, List.map_nil, PV.rens, PV.ren, if_true, if_false, Bool.false_eq_true, reduceIte, Nat.reduceAdd, Nat.reduceSub, Nat.reduceMul, Nat.reduceEqDiff, Nat.reduceLeDiff, Int.reduceLE, Int.reduceLT, Int.reduceEq, Int.reduceToNat, Int.reduceAdd, Int.reduceSub, Int.reduceNeg, decide_true, decide_false, Bool.not_true, Bool.not_false, Bool.true_and, Bool.false_and, Bool.and_true, Bool.and_false, Bool.or_true, Bool.true_or, Bool.or_false, Bool.false_or, and_self, and_true, true_and, Nat.le_refl, Nat.zero_add, Nat.mul_one, Nat.one_ne_zero, Nat.zero_le, highP, lowP, Option.map_some, Option.map_none, List.drop_zero, List.take_zero, List.length_cons, List.length_nil, List.nil_append, List.append_nil, List.cons_append, fillP, PV.cells?, PV.one, PV.cleans, PV.clean, PV.of?, List.all_cons, List.all_nil, List.take_succ_cons, List.drop_succ_cons, Bool.and_self, Int.natCast_nonneg, Int.toNat_natCast, Int.toNat_zero, PV.of?, Tk.ren, tailP, evL_loop, or_true, true_or, Nat.zero_lt_one, Nat.sub_zero, List.getElem?_cons_zero, List.getElem?_cons_succ, List.set_cons_zero, List.set_cons_succ, List.take_length, h1, w1, h2] <;> rfl
  cases hd : domB h s with
  | false => exact exact_no b h s (by omega) (by omega) a 5 (.inl ⟨rfl, hd⟩) (Stamp_dom h s (by omega) hd a)
  | true =>
    by_cases ht : a < 0 ∨ 1099511627776 < a
    · exact exact_no b h s (by omega) (by omega) a 1 (.inr ⟨rfl, hd, ht⟩) (Stamp_time h s (by omega) hd a ht)
    · obtain ⟨u, rfl⟩ : ∃ u : Nat, a = u := ⟨a.toNat, by omega⟩
      exact exact_yes b h s (by omega) (by omega) u (by omega) hd
end Go.Proofs.YtmdnloajpjfbmaaDoor.Tab
