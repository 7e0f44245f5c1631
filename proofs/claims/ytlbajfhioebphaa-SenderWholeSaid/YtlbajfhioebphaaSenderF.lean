/- Sendings: ticks, frames heard. -/
import Derived.Test.YtlbajfhioebphaaSenderE
namespace Go.Proofs.Ytlbajfhioebphaa.Tab
set_option linter.all false
open Go Go.RowKit Go.Proofs.Ytlbajfhioebphaa.Ev
def helloF (s : Snd) : Frm := ⟨1, s.N, s.l.length, 0, []⟩
def Snd.tick (s : Snd) : Snd :=
  if s.O = true then s
  else if s.R = true ∧ s.X < s.top then { s with X := s.top, W := 3 }
  else if 0 < s.W then { s with W := s.W - 1 }
  else if s.B < s.cnt then { s with R := false, B := 0, X := 0, W := 3 } else { s with W := 3 }
def Snd.out (s : Snd) : List Frm :=
  if s.O = true then []
  else if s.R = true ∧ s.X < s.top then chunks s s.X (s.top - s.X).toNat
  else if 0 < s.W then []
  else [helloF s]
theorem outPV_chunks (s : Snd) (p : Int) (m : Nat) (h : 0 < m) : outPV (chunks s p m) = .sl .no 5 m ((chunks s p m).flatMap Frm.cells) := by
  have hl := chunks_len s p m
  cases hc : chunks s p m with
  | nil => rw [hc] at hl; exact absurd hl (by simp; omega)
  | cons f r => rw [hc] at hl; show PV.sl .no 5 (f :: r).length _ = _; rw [hl]
theorem tick_of (s s' : Snd) (fr : List Frm) (h : evL TS 0 q11 [s.pv] [] = some (.rt, [.ptr 1 0, outPV fr, .int .i64 0], [.cells (sndC s'.N s'.l s'.R s'.B s'.X s'.W s'.O), .cells (sndC s'.N s'.l s'.R s'.B s'.X s'.W s'.O)])) :
    TS 11 [s.pv] [] = some (.tup [s'.pv, outPV fr, .int .i64 0], []) := by
  cases fr with
  | nil => exact evT_of (k := 0) (F := l11) (l := [s'.pv, .sl .nil 0 0 [], .int .i64 0]) rfl rfl rfl h rfl rfl
  | cons f r => exact evT_of (k := 0) (F := l11) (l := [s'.pv, outPV (f :: r), .int .i64 0]) rfl rfl rfl h rfl rfl
theorem T_Tick (s : Snd) (h : s.ok) : TS 11 [s.pv] [] = some (.tup [s.tick.pv, outPV s.out, .int .i64 0], []) := by
  have hL : (1 : Int) ≤ s.l.length ∧ (s.l.length : Int) ≤ 5000 := h.2.1
  have hW : 0 ≤ s.W ∧ s.W ≤ 3 := h.2.2.1
  have hB : 0 ≤ s.B ∧ s.B ≤ s.cnt := h.2.2.2.2.1
  have hX : s.B ≤ s.X ∧ s.X ≤ s.top := h.2.2.2.2.2
  have hcm : s.cnt ≤ 200 := by unfold Snd.cnt cnt; omega
  have htc : s.top ≤ s.cnt := by unfold Snd.top mn; split <;> omega
  have c1 := T_Check s.N s.l s.R s.B s.X s.W s.O
  rw [show okE (RS s.N s.l.length s.R s.B s.X s.W) = 0 from if_pos h] at c1
  have c2 : TS 31 [sndP s.N s.l s.R s.B s.X s.W s.O] [] = some (sndP s.N s.l s.R s.B s.X s.W s.O, []) := T_twin s (by omega) (by omega)
  have c3 : TS 34 [.int .i64 s.l.length] [] = some (.int .i64 s.cnt, []) := T_count (by omega) (by omega)
  have c4 : TS 32 [sndP s.N s.l s.R s.B s.X s.W s.O] [] = some (.int .i64 s.top, []) := T_top s.N s.l s.R s.B s.X s.W s.O (by omega) (by omega) (by omega)
  apply tick_of
  by_cases hO : s.O = true
  · rw [show s.tick = s from if_pos hO, show s.out = [] from if_pos hO]
    rw [hO] at c1 c2 c4
    simp only [q11, q11_0, q11_1, evL_op, evL_sel, evL_nx, evL_exit, evL_ret, evL_join, evL_block, evL_cond, evK_some, evJ_nx, evJ_rt, evJ_ex, evB_nx, evB_rt, evB_ex, evC2_bool, evS_and, evS_or, evS_tf, evS_ft, ev_t, ev_s, ev_c, evalOp, bin_add, bin_sub, bin_mul, bin_eql, bin_neq, bin_lss, bin_leq, bin_gtr, bin_geq, sbin_eql, sbin_neq, b8, List.map_cons, List.map_nil, PV.rens, PV.ren, if_true, if_false, Bool.false_eq_true, reduceIte, Nat.reduceAdd, Nat.reduceSub, Nat.reduceMul, Nat.reduceEqDiff, Nat.reduceLeDiff, Int.reduceLE, Int.reduceLT, Int.reduceEq, Int.reduceToNat, Int.reduceAdd, Int.reduceSub, Int.reduceNeg, decide_true, decide_false, Bool.not_true, Bool.not_false, Bool.true_and, Bool.false_and, Bool.and_true, Bool.and_false, Bool.or_true, Bool.true_or, Bool.or_false, Bool.false_or, and_self, and_true, true_and, Nat.le_refl, Nat.zero_add, Nat.mul_one, Nat.one_ne_zero, Nat.zero_le, highP, lowP, Option.map_some, Option.map_none, List.drop_zero, List.take_zero, List.length_cons, List.length_nil, List.nil_append, List.append_nil, List.cons_append, fillP, PV.cells?, PV.one, PV.cleans, PV.clean, PV.of?, List.all_cons, List.all_nil, List.take_succ_cons, List.drop_succ_cons, Bool.and_self, Int.natCast_nonneg, Int.toNat_natCast, Int.toNat_zero, Tk.ren, PV.of?, c1, c2, c3, c4, List.getElem?_cons_zero, List.getElem?_cons_succ, List.set_cons_zero, List.set_cons_succ, hO, outPV]
  · have hO' : s.O = false := by simpa using hO
    rw [hO'] at c1 c2 c4
    by_cases h1 : s.R = true ∧ s.X < s.top
    · have h2 : 0 < (s.top - s.X).toNat := by omega
      have c5 := T_pieces s s.X s.top (by omega) (by omega) htc (by omega)
      have c6 : TS 33 [sndP s.N s.l s.R s.B s.X s.W s.O, .int .i64 s.X, .int .i64 s.top] [] = some (.sl (.tok 0) 5 (s.top - s.X).toNat ((chunks s s.X (s.top - s.X).toNat).flatMap Frm.cells), [.tok]) := c5
      rw [hO', h1.1] at c6
      rw [show s.tick = { s with X := s.top, W := 3 } by unfold Snd.tick; rw [if_neg hO, if_pos h1], show s.out = chunks s s.X (s.top - s.X).toNat by unfold Snd.out; rw [if_neg hO, if_pos h1], outPV_chunks s s.X (s.top - s.X).toNat h2]
      rw [h1.1] at c1 c2 c4
      simp only [q11, q11_0, q11_1, evL_op, evL_sel, evL_nx, evL_exit, evL_ret, evL_join, evL_block, evL_cond, evK_some, evJ_nx, evJ_rt, evJ_ex, evB_nx, evB_rt, evB_ex, evC2_bool, evS_and, evS_or, evS_tf, evS_ft, ev_t, ev_s, ev_c, evalOp, bin_add, bin_sub, bin_mul, bin_eql, bin_neq, bin_lss, bin_leq, bin_gtr, bin_geq, sbin_eql, sbin_neq, b8, List.map_cons, List.map_nil, PV.rens, PV.ren, if_true, if_false, Bool.false_eq_true, reduceIte, Nat.reduceAdd, Nat.reduceSub, Nat.reduceMul, Nat.reduceEqDiff, Nat.reduceLeDiff, Int.reduceLE, Int.reduceLT, Int.reduceEq, Int.reduceToNat, Int.reduceAdd, Int.reduceSub, Int.reduceNeg, decide_true, decide_false, Bool.not_true, Bool.not_false, Bool.true_and, Bool.false_and, Bool.and_true, Bool.and_false, Bool.or_true, Bool.true_or, Bool.or_false, Bool.false_or, and_self, and_true, true_and, Nat.le_refl, Nat.zero_add, Nat.mul_one, Nat.one_ne_zero, Nat.zero_le, highP, lowP, Option.map_some, Option.map_none, List.drop_zero, List.take_zero, List.length_cons, List.length_nil, List.nil_append, List.append_nil, List.cons_append, fillP, PV.cells?, PV.one, PV.cleans, PV.clean, PV.of?, List.all_cons, List.all_nil, List.take_succ_cons, List.drop_succ_cons, Bool.and_self, Int.natCast_nonneg, Int.toNat_natCast, Int.toNat_zero, Tk.ren, PV.of?, c1, c2, c3, c4, List.getElem?_cons_zero, List.getElem?_cons_succ, List.set_cons_zero, List.set_cons_succ, hO', h1.1, h1.2, c6]
    · have h1' : (s.R && decide (s.X < s.top)) = false := by
        cases hR : s.R with
        | false => rfl
        | true => rw [decide_eq_false (fun hx => h1 ⟨hR, hx⟩)]; rfl
      by_cases h2 : 0 < s.W
      · have w1 : IntKind.i64.wrap (s.W - 1) = s.W - 1 := wr (by omega) (by omega)
        rw [show s.tick = { s with W := s.W - 1 } by unfold Snd.tick; rw [if_neg hO, if_neg h1, if_pos h2], show s.out = [] by unfold Snd.out; rw [if_neg hO, if_neg h1, if_pos h2]]
        simp only [q11, q11_0, q11_1, evL_op, evL_sel, evL_nx, evL_exit, evL_ret, evL_join, evL_block, evL_cond, evK_some, evJ_nx, evJ_rt, evJ_ex, evB_nx, evB_rt, evB_ex, evC2_bool, evS_and, evS_or, evS_tf, evS_ft, ev_t, ev_s, ev_c, evalOp, bin_add, bin_sub, bin_mul, bin_eql, bin_neq, bin_lss, bin_leq, bin_gtr, bin_geq, sbin_eql, sbin_neq, b8, List.map_cons, List.map_nil, PV.rens, PV.ren, if_true, if_false, Bool.false_eq_true, reduceIte, Nat.reduceAdd, Nat.reduceSub, Nat.reduceMul, Nat.reduceEqDiff, Nat.reduceLeDiff, Int.reduceLE, Int.reduceLT, Int.reduceEq, Int.reduceToNat, Int.reduceAdd, Int.reduceSub, Int.reduceNeg, decide_true, decide_false, Bool.not_true, Bool.not_false, Bool.true_and, Bool.false_and, Bool.and_true, Bool.and_false, Bool.or_true, Bool.true_or, Bool.or_false, Bool.false_or, and_self, and_true, true_and, Nat.le_refl, Nat.zero_add, Nat.mul_one, Nat.one_ne_zero, Nat.zero_le, highP, lowP, Option.map_some, Option.map_none, List.drop_zero, List.take_zero, List.length_cons, List.length_nil, List.nil_append, List.append_nil, List.cons_append, fillP, PV.cells?, PV.one, PV.cleans, PV.clean, PV.of?, List.all_cons, List.all_nil, List.take_succ_cons, List.drop_succ_cons, Bool.and_self, Int.natCast_nonneg, Int.toNat_natCast, Int.toNat_zero, Tk.ren, PV.of?, c1, c2, c3, c4, List.getElem?_cons_zero, List.getElem?_cons_succ, List.set_cons_zero, List.set_cons_succ, hO', h1', h2, w1, outPV]
      · by_cases h3 : s.B < s.cnt
        · rw [show s.tick = { s with R := false, B := 0, X := 0, W := 3 } by unfold Snd.tick; rw [if_neg hO, if_neg h1, if_neg h2, if_pos h3], show s.out = [helloF s] by unfold Snd.out; rw [if_neg hO, if_neg h1, if_neg h2]]
          simp only [q11, q11_0, q11_1, evL_op, evL_sel, evL_nx, evL_exit, evL_ret, evL_join, evL_block, evL_cond, evK_some, evJ_nx, evJ_rt, evJ_ex, evB_nx, evB_rt, evB_ex, evC2_bool, evS_and, evS_or, evS_tf, evS_ft, ev_t, ev_s, ev_c, evalOp, bin_add, bin_sub, bin_mul, bin_eql, bin_neq, bin_lss, bin_leq, bin_gtr, bin_geq, sbin_eql, sbin_neq, b8, List.map_cons, List.map_nil, PV.rens, PV.ren, if_true, if_false, Bool.false_eq_true, reduceIte, Nat.reduceAdd, Nat.reduceSub, Nat.reduceMul, Nat.reduceEqDiff, Nat.reduceLeDiff, Int.reduceLE, Int.reduceLT, Int.reduceEq, Int.reduceToNat, Int.reduceAdd, Int.reduceSub, Int.reduceNeg, decide_true, decide_false, Bool.not_true, Bool.not_false, Bool.true_and, Bool.false_and, Bool.and_true, Bool.and_false, Bool.or_true, Bool.true_or, Bool.or_false, Bool.false_or, and_self, and_true, true_and, Nat.le_refl, Nat.zero_add, Nat.mul_one, Nat.one_ne_zero, Nat.zero_le, highP, lowP, Option.map_some, Option.map_none, List.drop_zero, List.take_zero, List.length_cons, List.length_nil, List.nil_append, List.append_nil, List.cons_append, fillP, PV.cells?, PV.one, PV.cleans, PV.clean, PV.of?, List.all_cons, List.all_nil, List.take_succ_cons, List.drop_succ_cons, Bool.and_self, Int.natCast_nonneg, Int.toNat_natCast, Int.toNat_zero, Tk.ren, PV.of?, c1, c2, c3, c4, List.getElem?_cons_zero, List.getElem?_cons_succ, List.set_cons_zero, List.set_cons_succ, hO', h1', h2, h3, outPV, helloF, dpv, Frm.cells, List.flatMap_cons, List.flatMap_nil]
        · rw [show s.tick = { s with W := 3 } by unfold Snd.tick; rw [if_neg hO, if_neg h1, if_neg h2, if_neg h3], show s.out = [helloF s] by unfold Snd.out; rw [if_neg hO, if_neg h1, if_neg h2]]
          simp only [q11, q11_0, q11_1, evL_op, evL_sel, evL_nx, evL_exit, evL_ret, evL_join, evL_block, evL_cond, evK_some, evJ_nx, evJ_rt, evJ_ex, evB_nx, evB_rt, evB_ex, evC2_bool, evS_and, evS_or, evS_tf, evS_ft, ev_t, ev_s, ev_c, evalOp, bin_add, bin_sub, bin_mul, bin_eql, bin_neq, bin_lss, bin_leq, bin_gtr, bin_geq, sbin_eql, sbin_neq, b8, List.map_cons, List.map_nil, PV.rens, PV.ren, if_true, if_false, Bool.false_eq_true, reduceIte, Nat.reduceAdd, Nat.reduceSub, Nat.reduceMul, Nat.reduceEqDiff, Nat.reduceLeDiff, Int.reduceLE, Int.reduceLT, Int.reduceEq, Int.reduceToNat, Int.reduceAdd, Int.reduceSub, Int.reduceNeg, decide_true, decide_false, Bool.not_true, Bool.not_false, Bool.true_and, Bool.false_and, Bool.and_true, Bool.and_false, Bool.or_true, Bool.true_or, Bool.or_false, Bool.false_or, and_self, and_true, true_and, Nat.le_refl, Nat.zero_add, Nat.mul_one, Nat.one_ne_zero, Nat.zero_le, highP, lowP, Option.map_some, Option.map_none, List.drop_zero, List.take_zero, List.length_cons, List.length_nil, List.nil_append, List.append_nil, List.cons_append, fillP, PV.cells?, PV.one, PV.cleans, PV.clean, PV.of?, List.all_cons, List.all_nil, List.take_succ_cons, List.drop_succ_cons, Bool.and_self, Int.natCast_nonneg, Int.toNat_natCast, Int.toNat_zero, Tk.ren, PV.of?, c1, c2, c3, c4, List.getElem?_cons_zero, List.getElem?_cons_succ, List.set_cons_zero, List.set_cons_succ, hO', h1', h2, h3, outPV, helloF, dpv, Frm.cells, List.flatMap_cons, List.flatMap_nil]
def Snd.ready (s : Snd) (o : Int) : Snd := { s with R := true, B := Tab.cnt o, X := Tab.cnt o, W := 0 }
/-- May a sending go on from a place? -/
def Snd.place (s : Snd) (o : Int) : Prop := o ≤ s.l.length ∧ (o < s.l.length → o.tmod 48 = 0)
instance (s : Snd) (o : Int) : Decidable (s.place o) := by unfold Snd.place; infer_instance
theorem T_ready (s : Snd) (o : Int) (h : s.ok) (ho : 0 ≤ o) : TS 36 [s.pv, .int .i64 o] [] = some (.tup (if s.place o then [(s.ready o).pv, .int .i64 0] else [Snd.zero, .int .i64 11]), []) := by
  have hL : (1 : Int) ≤ s.l.length ∧ (s.l.length : Int) ≤ 5000 := h.2.1
  have c2 : TS 31 [sndP s.N s.l s.R s.B s.X s.W s.O] [] = some (sndP s.N s.l s.R s.B s.X s.W s.O, []) := T_twin s (by omega) (by omega)
  have bad : evL TS 0 q36 [s.pv, .int .i64 o] [] = some (.rt, [.ptr 1 0, .int .i64 11], [.cells (sndC s.N s.l s.R s.B s.X s.W s.O), .cells [.int .i64 0, .sl .nil 0 0 [], .bool false, .int .i64 0, .int .i64 0, .int .i64 0, .bool false]]) → TS 36 [s.pv, .int .i64 o] [] = some (.tup [Snd.zero, .int .i64 11], []) := fun hh =>
    evT_of (k := 0) (F := l36) (l := [Snd.zero, .int .i64 11]) rfl rfl rfl hh rfl rfl
  by_cases h1 : (s.l.length : Int) < o
  · rw [if_neg (fun hp => by have := hp.1; omega)]
    apply bad
    simp only [q36, evL_op, evL_sel, evL_nx, evL_exit, evL_ret, evL_join, evL_block, evL_cond, evK_some, evJ_nx, evJ_rt, evJ_ex, evB_nx, evB_rt, evB_ex, evC2_bool, evS_and, evS_or, evS_tf, evS_ft, ev_t, ev_s, ev_c, evalOp, bin_add, bin_sub, bin_mul, bin_eql, bin_neq, bin_lss, bin_leq, bin_gtr, bin_geq, sbin_eql, sbin_neq, b8, List.map_cons, List.map_nil, PV.rens, PV.ren, if_true, if_false, Bool.false_eq_true, reduceIte, Nat.reduceAdd, Nat.reduceSub, Nat.reduceMul, Nat.reduceEqDiff, Nat.reduceLeDiff, Int.reduceLE, Int.reduceLT, Int.reduceEq, Int.reduceToNat, Int.reduceAdd, Int.reduceSub, Int.reduceNeg, decide_true, decide_false, Bool.not_true, Bool.not_false, Bool.true_and, Bool.false_and, Bool.and_true, Bool.and_false, Bool.or_true, Bool.true_or, Bool.or_false, Bool.false_or, and_self, and_true, true_and, Nat.le_refl, Nat.zero_add, Nat.mul_one, Nat.one_ne_zero, Nat.zero_le, highP, lowP, Option.map_some, Option.map_none, List.drop_zero, List.take_zero, List.length_cons, List.length_nil, List.nil_append, List.append_nil, List.cons_append, fillP, PV.cells?, PV.one, PV.cleans, PV.clean, PV.of?, List.all_cons, List.all_nil, List.take_succ_cons, List.drop_succ_cons, Bool.and_self, Int.natCast_nonneg, Int.toNat_natCast, Int.toNat_zero, Tk.ren, PV.of?, h1, List.getElem?_cons_zero, List.getElem?_cons_succ, List.set_cons_zero, List.set_cons_succ]
  by_cases h2 : o < (s.l.length : Int) ∧ ¬ o.tmod 48 = 0
  · rw [if_neg (fun hp => h2.2 (hp.2 h2.1))]
    have w1 : IntKind.i64.wrap (o.tmod 48) = o.tmod 48 := by rw [Int.tmod_eq_emod_of_nonneg ho]; exact wr (by omega) (by omega)
    apply bad
    simp only [q36, evL_op, evL_sel, evL_nx, evL_exit, evL_ret, evL_join, evL_block, evL_cond, evK_some, evJ_nx, evJ_rt, evJ_ex, evB_nx, evB_rt, evB_ex, evC2_bool, evS_and, evS_or, evS_tf, evS_ft, ev_t, ev_s, ev_c, evalOp, bin_add, bin_sub, bin_mul, bin_eql, bin_neq, bin_lss, bin_leq, bin_gtr, bin_geq, sbin_eql, sbin_neq, b8, List.map_cons, List.map_nil, PV.rens, PV.ren, if_true, if_false, Bool.false_eq_true, reduceIte, Nat.reduceAdd, Nat.reduceSub, Nat.reduceMul, Nat.reduceEqDiff, Nat.reduceLeDiff, Int.reduceLE, Int.reduceLT, Int.reduceEq, Int.reduceToNat, Int.reduceAdd, Int.reduceSub, Int.reduceNeg, decide_true, decide_false, Bool.not_true, Bool.not_false, Bool.true_and, Bool.false_and, Bool.and_true, Bool.and_false, Bool.or_true, Bool.true_or, Bool.or_false, Bool.false_or, and_self, and_true, true_and, Nat.le_refl, Nat.zero_add, Nat.mul_one, Nat.one_ne_zero, Nat.zero_le, highP, lowP, Option.map_some, Option.map_none, List.drop_zero, List.take_zero, List.length_cons, List.length_nil, List.nil_append, List.append_nil, List.cons_append, fillP, PV.cells?, PV.one, PV.cleans, PV.clean, PV.of?, List.all_cons, List.all_nil, List.take_succ_cons, List.drop_succ_cons, Bool.and_self, Int.natCast_nonneg, Int.toNat_natCast, Int.toNat_zero, Tk.ren, PV.of?, h1, h2.1, h2.2, r48, w1, List.getElem?_cons_zero, List.getElem?_cons_succ, List.set_cons_zero, List.set_cons_succ]
  · have hp : s.place o := ⟨by omega, fun hh => by by_cases h3 : o.tmod 48 = 0; exact h3; exact absurd ⟨hh, h3⟩ h2⟩
    rw [if_pos hp]
    have w1 : IntKind.i64.wrap (o.tmod 48) = o.tmod 48 := by rw [Int.tmod_eq_emod_of_nonneg ho]; exact wr (by omega) (by omega)
    have c3 : TS 34 [.int .i64 o] [] = some (.int .i64 (cnt o), []) := T_count (by omega) (by omega)
    refine evT_of (k := 0) (F := l36) (H' := [.cells (sndC s.N s.l true (cnt o) (cnt o) 0 s.O), .cells (sndC s.N s.l true (cnt o) (cnt o) 0 s.O)]) (e := [.ptr 1 0, .int .i64 0]) (l := [(s.ready o).pv, .int .i64 0]) rfl rfl rfl ?_ rfl rfl
    show evL TS 0 q36 _ _ = _
    have h3 : (decide (o < (s.l.length : Int)) && !decide (o.tmod 48 = 0)) = false := by
      by_cases h4 : o < (s.l.length : Int)
      · have h5 : o.tmod 48 = 0 := hp.2 h4
        simp [h5]
      · simp [h4]
    simp only [q36, evL_op, evL_sel, evL_nx, evL_exit, evL_ret, evL_join, evL_block, evL_cond, evK_some, evJ_nx, evJ_rt, evJ_ex, evB_nx, evB_rt, evB_ex, evC2_bool, evS_and, evS_or, evS_tf, evS_ft, ev_t, ev_s, ev_c, evalOp, bin_add, bin_sub, bin_mul, bin_eql, bin_neq, bin_lss, bin_leq, bin_gtr, bin_geq, sbin_eql, sbin_neq, b8, List.map_cons, List.map_nil, PV.rens, PV.ren, if_true, if_false, Bool.false_eq_true, reduceIte, Nat.reduceAdd, Nat.reduceSub, Nat.reduceMul, Nat.reduceEqDiff, Nat.reduceLeDiff, Int.reduceLE, Int.reduceLT, Int.reduceEq, Int.reduceToNat, Int.reduceAdd, Int.reduceSub, Int.reduceNeg, decide_true, decide_false, Bool.not_true, Bool.not_false, Bool.true_and, Bool.false_and, Bool.and_true, Bool.and_false, Bool.or_true, Bool.true_or, Bool.or_false, Bool.false_or, and_self, and_true, true_and, Nat.le_refl, Nat.zero_add, Nat.mul_one, Nat.one_ne_zero, Nat.zero_le, highP, lowP, Option.map_some, Option.map_none, List.drop_zero, List.take_zero, List.length_cons, List.length_nil, List.nil_append, List.append_nil, List.cons_append, fillP, PV.cells?, PV.one, PV.cleans, PV.clean, PV.of?, List.all_cons, List.all_nil, List.take_succ_cons, List.drop_succ_cons, Bool.and_self, Int.natCast_nonneg, Int.toNat_natCast, Int.toNat_zero, Tk.ren, PV.of?, h1, r48, w1, h3, c2, c3, List.getElem?_cons_zero, List.getElem?_cons_succ, List.set_cons_zero, List.set_cons_succ]
end Go.Proofs.Ytlbajfhioebphaa.Tab
