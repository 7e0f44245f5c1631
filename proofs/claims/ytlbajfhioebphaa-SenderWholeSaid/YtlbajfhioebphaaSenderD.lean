/- Sendings: what the functions make of them. -/
import Derived.Test.YtlbajfhioebphaaSenderC
namespace Go.Proofs.Ytlbajfhioebphaa.Tab
set_option linter.all false
open Go Go.RowKit Go.Proofs.Ytlbajfhioebphaa.Ev
@[ext] structure Snd where (N : Int) (l : List UInt8) (R : Bool) (B X W : Int) (O : Bool)
  deriving DecidableEq
abbrev Snd.pv (s : Snd) : PV := sndP s.N s.l s.R s.B s.X s.W s.O
@[reducible] def Snd.ok (s : Snd) : Prop := RS s.N s.l.length s.R s.B s.X s.W
def Snd.cnt (s : Snd) : Int := Tab.cnt s.l.length
def Snd.top (s : Snd) : Int := mn (s.B + 7) s.cnt
structure Frm where (K N O S : Int) (d : List UInt8)
def dpv : List UInt8 → PV
  | [] => .sl .nil 0 0 []
  | c :: r => sl8 (c :: r)
theorem dpvB (l : List UInt8) : IsB (dpv l) l := by cases l with | nil => exact nilB | cons c r => exact slB _
def Frm.cells (f : Frm) : List PV := [.int .i64 f.K, .int .i64 f.N, .int .i64 f.O, .int .i64 f.S, dpv f.d]
def outPV : List Frm → PV
  | [] => .sl .nil 0 0 []
  | f :: r => .sl .no 5 (f :: r).length ((f :: r).flatMap Frm.cells)
theorem T_clone (l : List UInt8) (h0 : 0 < l.length) (h1 : l.length ≤ 6000) : TS 39 [sl8 l] [] = some (.sl (.tok 0) 1 l.length (l.map b8), [.tok]) := by
  refine evT_of (k := 0) (F := l39) (H' := [.dead, .tok]) (e := [.sl (.tok 1) 1 l.length (l.map b8)]) (l := [.sl (.tok 1) 1 l.length (l.map b8)]) rfl rfl rfl ?_ rfl rfl
  show evL TS 0 q39 _ _ = _
  have h2 : (0 + l.length) * 1 ≤ roomMax := by unfold roomMax; omega
  have h3 : l.length ≤ roomMax := by unfold roomMax; omega
  simp only [q39, evL_op, evL_sel, evL_nx, evL_exit, evL_ret, evL_join, evL_block, evL_cond, evK_some, evJ_nx, evJ_rt, evJ_ex, evB_nx, evB_rt, evB_ex, evC2_bool, evS_and, evS_or, evS_tf, evS_ft, ev_t, ev_s, ev_c, evalOp, bin_add, bin_sub, bin_mul, bin_eql, bin_neq, bin_lss, bin_leq, bin_gtr, bin_geq, sbin_eql, sbin_neq, b8, List.map_cons, List.map_nil, PV.rens, PV.ren, if_true, if_false, Bool.false_eq_true, reduceIte, Nat.reduceAdd, Nat.reduceSub, Nat.reduceMul, Nat.reduceEqDiff, Nat.reduceLeDiff, Int.reduceLE, Int.reduceLT, Int.reduceEq, Int.reduceToNat, Int.reduceAdd, Int.reduceSub, Int.reduceNeg, decide_true, decide_false, Bool.not_true, Bool.not_false, Bool.true_and, Bool.false_and, Bool.and_true, Bool.and_false, Bool.or_true, Bool.true_or, Bool.or_false, Bool.false_or, and_self, and_true, true_and, Nat.le_refl, Nat.zero_add, Nat.mul_one, Nat.one_ne_zero, Nat.zero_le, highP, lowP, Option.map_some, Option.map_none, List.drop_zero, List.take_zero, List.length_cons, List.length_nil, List.nil_append, List.append_nil, List.cons_append, fillP, PV.cells?, PV.one, PV.cleans, PV.clean, PV.of?, List.all_cons, List.all_nil, List.take_succ_cons, List.drop_succ_cons, Bool.and_self, Int.natCast_nonneg, Int.toNat_natCast, Int.toNat_zero, Tk.ren, h0, tailP, h2, h3, List.getElem?_cons_zero, List.set_cons_zero, true_or, or_true, reduceCtorEq, Bool.false_xor]
theorem T_twin (s : Snd) (h0 : 0 < s.l.length) (h1 : s.l.length ≤ 6000) : TS 31 [s.pv] [] = some (s.pv, []) := by
  obtain ⟨N, l, R, B, X, W, O⟩ := s
  refine evT_of (k := 0) (F := l31) (H' := [.cells (sndC N l R B X W O), .cells (sndC N l R B X W O)]) (e := [.ptr 1 0]) (l := [sndP N l R B X W O]) rfl rfl rfl ?_ rfl rfl
  show evL TS 0 q31 _ _ = _
  have c1 := T_clone l h0 h1
  simp only [q31, evL_op, evL_sel, evL_nx, evL_exit, evL_ret, evL_join, evL_block, evL_cond, evK_some, evJ_nx, evJ_rt, evJ_ex, evB_nx, evB_rt, evB_ex, evC2_bool, evS_and, evS_or, evS_tf, evS_ft, ev_t, ev_s, ev_c, evalOp, bin_add, bin_sub, bin_mul, bin_eql, bin_neq, bin_lss, bin_leq, bin_gtr, bin_geq, sbin_eql, sbin_neq, b8, List.map_cons, List.map_nil, PV.rens, PV.ren, if_true, if_false, Bool.false_eq_true, reduceIte, Nat.reduceAdd, Nat.reduceSub, Nat.reduceMul, Nat.reduceEqDiff, Nat.reduceLeDiff, Int.reduceLE, Int.reduceLT, Int.reduceEq, Int.reduceToNat, Int.reduceAdd, Int.reduceSub, Int.reduceNeg, decide_true, decide_false, Bool.not_true, Bool.not_false, Bool.true_and, Bool.false_and, Bool.and_true, Bool.and_false, Bool.or_true, Bool.true_or, Bool.or_false, Bool.false_or, and_self, and_true, true_and, Nat.le_refl, Nat.zero_add, Nat.mul_one, Nat.one_ne_zero, Nat.zero_le, highP, lowP, Option.map_some, Option.map_none, List.drop_zero, List.take_zero, List.length_cons, List.length_nil, List.nil_append, List.append_nil, List.cons_append, fillP, PV.cells?, PV.one, PV.cleans, PV.clean, PV.of?, List.all_cons, List.all_nil, List.take_succ_cons, List.drop_succ_cons, Bool.and_self, Int.natCast_nonneg, Int.toNat_natCast, Int.toNat_zero, Tk.ren, PV.of?, c1, List.getElem?_cons_zero, List.getElem?_cons_succ, List.set_cons_zero, List.set_cons_succ]
theorem T_refSend (s : Snd) (hl : s.l.length ≤ 140737488351232) : TS 10 [s.pv] [] = some (.bool (decide s.ok), []) := by
  obtain ⟨N, l, R, B, X, W, O⟩ := s
  have hl' : l.length ≤ 140737488351232 := hl
  have c1 := T_ref_pieces l (by omega)
  have key : ∀ m : Int, (0 ≤ B → B ≤ cnt l.length → m = B + 7) → (decide (1 ≤ N) && decide (N ≤ 65535) && (decide (1 ≤ (l.length : Int)) && decide ((l.length : Int) ≤ 5000)) && (decide (0 ≤ B) && decide (B ≤ cnt l.length)) && (decide (B ≤ X) && decide (X ≤ if cnt l.length < m then cnt l.length else m)) && (decide (0 ≤ W) && decide (W ≤ 3)) && (R || decide (B = 0) && decide (X = 0))) = decide (RS N l.length R B X W) := by
    intro m hm
    rw [Bool.eq_iff_iff, decide_eq_true_eq]
    unfold RS
    simp only [Bool.and_eq_true, decide_eq_true_eq, Bool.or_eq_true]
    by_cases hB : 0 ≤ B ∧ B ≤ cnt l.length
    · have hm := hm hB.1 hB.2
      subst hm
      have hmn : mn (B + 7) (cnt l.length) = if cnt l.length < B + 7 then cnt l.length else B + 7 := rfl
      rw [← hmn]
      constructor
      · rintro ⟨⟨⟨⟨⟨⟨h1, h2⟩, h3, h4⟩, h5, h6⟩, h7, h8⟩, h9, h10⟩, h11⟩; exact ⟨⟨h1, h2⟩, ⟨h3, h4⟩, ⟨h9, h10⟩, h11, ⟨h5, h6⟩, ⟨h7, h8⟩⟩
      · rintro ⟨⟨h1, h2⟩, ⟨h3, h4⟩, ⟨h9, h10⟩, h11, ⟨h5, h6⟩, ⟨h7, h8⟩⟩; exact ⟨⟨⟨⟨⟨⟨h1, h2⟩, h3, h4⟩, h5, h6⟩, h7, h8⟩, h9, h10⟩, h11⟩
    · constructor
      · rintro ⟨⟨⟨⟨⟨⟨h1, h2⟩, h3, h4⟩, h5, h6⟩, h7, h8⟩, h9, h10⟩, h11⟩; exact absurd ⟨h5, h6⟩ hB
      · rintro ⟨⟨h1, h2⟩, ⟨h3, h4⟩, ⟨h9, h10⟩, h11, ⟨h5, h6⟩, ⟨h7, h8⟩⟩; exact absurd ⟨h5, h6⟩ hB
  have k1 := key (IntKind.i64.wrap (B + 7)) fun h h' => wr (by omega) (by unfold cnt at h'; omega)
  show TS 10 _ _ = some (.bool (decide (RS N l.length R B X W)), [])
  rw [← k1]
  refine evT_of (k := 0) (F := l10) (H' := []) (e := [.bool _]) (l := [.bool _]) rfl rfl rfl ?_ rfl rfl
  show evL TS 0 q10 _ _ = _
  simp only [q10, evL_op, evL_sel, evL_nx, evL_exit, evL_ret, evL_join, evL_block, evL_cond, evK_some, evJ_nx, evJ_rt, evJ_ex, evB_nx, evB_rt, evB_ex, evC2_bool, evS_and, evS_or, evS_tf, evS_ft, ev_t, ev_s, ev_c, evalOp, bin_add, bin_sub, bin_mul, bin_eql, bin_neq, bin_lss, bin_leq, bin_gtr, bin_geq, sbin_eql, sbin_neq, b8, List.map_cons, List.map_nil, PV.rens, PV.ren, if_true, if_false, Bool.false_eq_true, reduceIte, Nat.reduceAdd, Nat.reduceSub, Nat.reduceMul, Nat.reduceEqDiff, Nat.reduceLeDiff, Int.reduceLE, Int.reduceLT, Int.reduceEq, Int.reduceToNat, Int.reduceAdd, Int.reduceSub, Int.reduceNeg, decide_true, decide_false, Bool.not_true, Bool.not_false, Bool.true_and, Bool.false_and, Bool.and_true, Bool.and_false, Bool.or_true, Bool.true_or, Bool.or_false, Bool.false_or, and_self, and_true, true_and, Nat.le_refl, Nat.zero_add, Nat.mul_one, Nat.one_ne_zero, Nat.zero_le, highP, lowP, Option.map_some, Option.map_none, List.drop_zero, List.take_zero, List.length_cons, List.length_nil, List.nil_append, List.append_nil, List.cons_append, fillP, PV.cells?, PV.one, PV.cleans, PV.clean, PV.of?, List.all_cons, List.all_nil, List.take_succ_cons, List.drop_succ_cons, Bool.and_self, Int.natCast_nonneg, Int.toNat_natCast, Int.toNat_zero, Tk.ren, PV.of?, c1, T_in]
theorem T_Pieces (s : Snd) (h : s.ok) : TS 19 [s.pv] [] = some (.int .i64 s.cnt, []) := by
  obtain ⟨N, l, R, B, X, W, O⟩ := s
  have hL : (1 : Int) ≤ l.length ∧ (l.length : Int) ≤ 5000 := h.2.1
  have c1 := T_Check N l R B X W O
  have c2 := T_count (n := l.length) (by omega) (by omega)
  have c3 : okE (RS N l.length R B X W) = 0 := if_pos h
  refine evT_of (k := 0) (F := l19) (H' := []) (e := [.int .i64 (cnt l.length)]) (l := [.int .i64 (cnt l.length)]) rfl rfl rfl ?_ rfl rfl
  show evL TS 0 q19 _ _ = _
  simp only [q19, evL_op, evL_sel, evL_nx, evL_exit, evL_ret, evL_join, evL_block, evL_cond, evK_some, evJ_nx, evJ_rt, evJ_ex, evB_nx, evB_rt, evB_ex, evC2_bool, evS_and, evS_or, evS_tf, evS_ft, ev_t, ev_s, ev_c, evalOp, bin_add, bin_sub, bin_mul, bin_eql, bin_neq, bin_lss, bin_leq, bin_gtr, bin_geq, sbin_eql, sbin_neq, b8, List.map_cons, List.map_nil, PV.rens, PV.ren, if_true, if_false, Bool.false_eq_true, reduceIte, Nat.reduceAdd, Nat.reduceSub, Nat.reduceMul, Nat.reduceEqDiff, Nat.reduceLeDiff, Int.reduceLE, Int.reduceLT, Int.reduceEq, Int.reduceToNat, Int.reduceAdd, Int.reduceSub, Int.reduceNeg, decide_true, decide_false, Bool.not_true, Bool.not_false, Bool.true_and, Bool.false_and, Bool.and_true, Bool.and_false, Bool.or_true, Bool.true_or, Bool.or_false, Bool.false_or, and_self, and_true, true_and, Nat.le_refl, Nat.zero_add, Nat.mul_one, Nat.one_ne_zero, Nat.zero_le, highP, lowP, Option.map_some, Option.map_none, List.drop_zero, List.take_zero, List.length_cons, List.length_nil, List.nil_append, List.append_nil, List.cons_append, fillP, PV.cells?, PV.one, PV.cleans, PV.clean, PV.of?, List.all_cons, List.all_nil, List.take_succ_cons, List.drop_succ_cons, Bool.and_self, Int.natCast_nonneg, Int.toNat_natCast, Int.toNat_zero, Tk.ren, PV.of?, c1, c2, c3]
def Snd.zero : PV := .agg [.int .i64 0, .sl .nil 0 0 [], .bool false, .int .i64 0, .int .i64 0, .int .i64 0, .bool false]
theorem T_New (N : Int) (l : List UInt8) : TS 17 [.int .i64 N, sl8 l] [] =
    some (.tup [if RS N l.length false 0 0 0 then Snd.pv ⟨N, l, false, 0, 0, 0, false⟩ else Snd.zero, .int .i64 (okE (RS N l.length false 0 0 0))], []) := by
  have c1 := T_Check N l false 0 0 0 false
  by_cases h : RS N l.length false 0 0 0
  · have hL := h.2.1
    have c2 := T_twin ⟨N, l, false, 0, 0, 0, false⟩ (by dsimp only; omega) (by dsimp only; omega)
    have c3 : okE (RS N l.length false 0 0 0) = 0 := if_pos h
    rw [if_pos h, c3]
    rw [c3] at c1
    refine evT_of (k := 0) (F := l17) (H' := [.cells (sndC N l false 0 0 0 false), .cells (sndC N l false 0 0 0 false)]) (e := [.ptr 0 0, .int .i64 0]) (l := [sndP N l false 0 0 0 false, .int .i64 0]) rfl rfl rfl ?_ rfl rfl
    show evL TS 0 q17 _ _ = _
    simp only [q17, evL_op, evL_sel, evL_nx, evL_exit, evL_ret, evL_join, evL_block, evL_cond, evK_some, evJ_nx, evJ_rt, evJ_ex, evB_nx, evB_rt, evB_ex, evC2_bool, evS_and, evS_or, evS_tf, evS_ft, ev_t, ev_s, ev_c, evalOp, bin_add, bin_sub, bin_mul, bin_eql, bin_neq, bin_lss, bin_leq, bin_gtr, bin_geq, sbin_eql, sbin_neq, b8, List.map_cons, List.map_nil, PV.rens, PV.ren, if_true, if_false, Bool.false_eq_true, reduceIte, Nat.reduceAdd, Nat.reduceSub, Nat.reduceMul, Nat.reduceEqDiff, Nat.reduceLeDiff, Int.reduceLE, Int.reduceLT, Int.reduceEq, Int.reduceToNat, Int.reduceAdd, Int.reduceSub, Int.reduceNeg, decide_true, decide_false, Bool.not_true, Bool.not_false, Bool.true_and, Bool.false_and, Bool.and_true, Bool.and_false, Bool.or_true, Bool.true_or, Bool.or_false, Bool.false_or, and_self, and_true, true_and, Nat.le_refl, Nat.zero_add, Nat.mul_one, Nat.one_ne_zero, Nat.zero_le, highP, lowP, Option.map_some, Option.map_none, List.drop_zero, List.take_zero, List.length_cons, List.length_nil, List.nil_append, List.append_nil, List.cons_append, fillP, PV.cells?, PV.one, PV.cleans, PV.clean, PV.of?, List.all_cons, List.all_nil, List.take_succ_cons, List.drop_succ_cons, Bool.and_self, Int.natCast_nonneg, Int.toNat_natCast, Int.toNat_zero, Tk.ren, PV.of?, c1, c2, List.getElem?_cons_zero, List.getElem?_cons_succ, List.set_cons_zero, List.set_cons_succ]
  · have c3 : okE (RS N l.length false 0 0 0) = 1 := if_neg h
    rw [if_neg h, c3]
    rw [c3] at c1
    refine evT_of (k := 0) (F := l17) (H' := [.cells [.int .i64 0, .sl .nil 0 0 [], .bool false, .int .i64 0, .int .i64 0, .int .i64 0, .bool false], .cells (sndC N l false 0 0 0 false)]) (e := [.ptr 0 0, .int .i64 1]) (l := [.agg [.int .i64 0, .sl .nil 0 0 [], .bool false, .int .i64 0, .int .i64 0, .int .i64 0, .bool false], .int .i64 1]) rfl rfl rfl ?_ rfl rfl
    show evL TS 0 q17 _ _ = _
    simp only [q17, evL_op, evL_sel, evL_nx, evL_exit, evL_ret, evL_join, evL_block, evL_cond, evK_some, evJ_nx, evJ_rt, evJ_ex, evB_nx, evB_rt, evB_ex, evC2_bool, evS_and, evS_or, evS_tf, evS_ft, ev_t, ev_s, ev_c, evalOp, bin_add, bin_sub, bin_mul, bin_eql, bin_neq, bin_lss, bin_leq, bin_gtr, bin_geq, sbin_eql, sbin_neq, b8, List.map_cons, List.map_nil, PV.rens, PV.ren, if_true, if_false, Bool.false_eq_true, reduceIte, Nat.reduceAdd, Nat.reduceSub, Nat.reduceMul, Nat.reduceEqDiff, Nat.reduceLeDiff, Int.reduceLE, Int.reduceLT, Int.reduceEq, Int.reduceToNat, Int.reduceAdd, Int.reduceSub, Int.reduceNeg, decide_true, decide_false, Bool.not_true, Bool.not_false, Bool.true_and, Bool.false_and, Bool.and_true, Bool.and_false, Bool.or_true, Bool.true_or, Bool.or_false, Bool.false_or, and_self, and_true, true_and, Nat.le_refl, Nat.zero_add, Nat.mul_one, Nat.one_ne_zero, Nat.zero_le, highP, lowP, Option.map_some, Option.map_none, List.drop_zero, List.take_zero, List.length_cons, List.length_nil, List.nil_append, List.append_nil, List.cons_append, fillP, PV.cells?, PV.one, PV.cleans, PV.clean, PV.of?, List.all_cons, List.all_nil, List.take_succ_cons, List.drop_succ_cons, Bool.and_self, Int.natCast_nonneg, Int.toNat_natCast, Int.toNat_zero, Tk.ren, PV.of?, c1, List.getElem?_cons_zero, List.getElem?_cons_succ, List.set_cons_zero, List.set_cons_succ]
end Go.Proofs.Ytlbajfhioebphaa.Tab
