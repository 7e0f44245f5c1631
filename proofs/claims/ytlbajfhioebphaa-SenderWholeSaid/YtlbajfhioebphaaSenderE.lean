/- Sendings: pieces. -/
import Derived.Test.YtlbajfhioebphaaSenderD
namespace Go.Proofs.Ytlbajfhioebphaa.Tab
set_option linter.all false
open Go Go.RowKit Go.Proofs.Ytlbajfhioebphaa.Ev
def chunkF (s : Snd) (i : Int) : Frm := ⟨3, s.N, i * 48, i.tmod 8, (s.l.take (mn (i * 48 + 48) s.l.length).toNat).drop (i * 48).toNat⟩
def chunks (s : Snd) (p : Int) (m : Nat) : List Frm := (List.range m).map fun j : Nat => chunkF s (p + j)
theorem chunks_succ (s : Snd) (p : Int) (m : Nat) : chunks s p (m + 1) = chunks s p m ++ [chunkF s (p + m)] := by
  unfold chunks; rw [List.range_succ, List.map_append]; rfl
theorem chunk_len {s : Snd} {i : Int} (h0 : 0 ≤ i) (h1 : i < s.cnt) (h2 : s.l.length ≤ 6000) : ((chunkF s i).d.length : Int) = mn (i * 48 + 48) s.l.length - i * 48 ∧ 0 < (chunkF s i).d.length := by
  have h3 : i * 48 < s.l.length := by unfold Snd.cnt cnt at h1; omega
  unfold chunkF; dsimp only
  rw [List.length_drop, List.length_take]
  unfold mn
  split <;> omega
theorem chunk_dpv {s : Snd} {i : Int} (h0 : 0 ≤ i) (h1 : i < s.cnt) (h2 : s.l.length ≤ 6000) : dpv (chunkF s i).d = sl8 (chunkF s i).d := by
  have := (chunk_len h0 h1 h2).2
  cases h : (chunkF s i).d with
  | nil => rw [h] at this; exact absurd this (by decide)
  | cons c r => rfl
theorem head_pieces (a b : Int) (cs : List PV) (z n : Nat) (ds : List PV) : headS 0 [.int .i64 a, .ep cs 0, .sl (.tok 1) z n ds, .int .i64 b] [.dead, .tok] = ([.int .i64 a, .ep cs 0, .sl (.tok 0) z n ds, .int .i64 b], [.tok]) := rfl
theorem head_pieces0 (a b : Int) (cs : List PV) : headS 0 [.int .i64 a, .ep cs 0, .sl .nil 0 0 [], .int .i64 b] [] = ([.int .i64 a, .ep cs 0, .sl (.tok 0) 0 0 [], .int .i64 b], [.tok]) := rfl
theorem head_pieces1 (a b : Int) (cs : List PV) (z n : Nat) (ds : List PV) : headS 0 [.int .i64 a, .ep cs 0, .sl (.tok 0) z n ds, .int .i64 b] [.tok] = ([.int .i64 a, .ep cs 0, .sl (.tok 0) z n ds, .int .i64 b], [.tok]) := rfl
theorem body_pieces (s : Snd) (t i : Int) (z n : Nat) (ds : List PV) (hi0 : 0 ≤ i) (hi : i < t) (ht : t ≤ s.cnt) (hl : s.l.length ≤ 6000) (hz : z = 5 ∨ z = 0) (hn : n ≤ 6000) (k0 : Nat) :
    evL TS k0 q33_1 [.int .i64 t, .ep (sndC s.N s.l s.R s.B s.X s.W s.O) 0, .sl (.tok 0) z n ds, .int .i64 i] [.tok] =
      some (.nx, [.int .i64 t, .ep (sndC s.N s.l s.R s.B s.X s.W s.O) 0, .sl (.tok 1) 5 (n + 1) (ds ++ (chunkF s i).cells), .int .i64 (i + 1)], [.dead, .tok]) := by
  have hc : s.cnt ≤ 200 := by unfold Snd.cnt cnt; omega
  have h3 : i * 48 < s.l.length := by unfold Snd.cnt cnt at ht; omega
  have w1 : IntKind.i64.wrap (i + 1) = i + 1 := wr (by omega) (by omega)
  have w2 : IntKind.i64.wrap (i * 48) = i * 48 := wr (by omega) (by omega)
  have w3 : IntKind.i64.wrap (i * 48 + 48) = i * 48 + 48 := wr (by omega) (by omega)
  have w4 : IntKind.i64.wrap (i.tmod 8) = i.tmod 8 := by rw [Int.tmod_eq_emod_of_nonneg hi0]; exact wr (by omega) (by omega)
  have hp := chunk_len hi0 (by omega) hl
  have hd := chunk_dpv hi0 (by omega) hl
  have c1 := T_clone (chunkF s i).d hp.2 (by have := hp.1; unfold mn at this; split at this <;> omega)
  have m0 : (if (s.l.length : Int) < i * 48 + 48 then (s.l.length : Int) else i * 48 + 48) = mn (i * 48 + 48) s.l.length := rfl
  have m1 : i * 48 ≤ mn (i * 48 + 48) s.l.length := by rw [le_mn]; omega
  have m2 : mn (i * 48 + 48) s.l.length ≤ s.l.length := by unfold mn; split <;> omega
  have m3 : 0 ≤ mn (i * 48 + 48) s.l.length := by omega
  have m4 : 0 ≤ i * 48 := by omega
  have m5 : (i * 48).toNat ≤ (mn (i * 48 + 48) s.l.length).toNat := by omega
  have m6 : (mn (i * 48 + 48) s.l.length).toNat ≤ s.l.length := by omega
  have r1 : (n + 1) * 56 ≤ roomMax := by unfold roomMax; omega
  have hs : PV.sl .no 1 ((mn (i * 48 + 48) s.l.length).toNat - (i * 48).toNat) (((s.l.map b8).take (mn (i * 48 + 48) s.l.length).toNat).drop (i * 48).toNat) = sl8 (chunkF s i).d := by
    unfold sl8 chunkF
    dsimp only
    rw [List.map_drop, List.map_take, List.length_drop, List.length_take, Nat.min_eq_left m6]
  have hb : (chunkF s i).cells = [.int .i64 3, .int .i64 s.N, .int .i64 (i * 48), .int .i64 (i.tmod 8), sl8 (chunkF s i).d] := by
    unfold Frm.cells; rw [hd]; rfl
  simp only [q33_1, q33_0, evL_op, evL_sel, evL_nx, evL_exit, evL_ret, evL_join, evL_block, evL_cond, evK_some, evJ_nx, evJ_rt, evJ_ex, evB_nx, evB_rt, evB_ex, evC2_bool, evS_and, evS_or, evS_tf, evS_ft, ev_t, ev_s, ev_c, evalOp, bin_add, bin_sub, bin_mul, bin_eql, bin_neq, bin_lss, bin_leq, bin_gtr, bin_geq, sbin_eql, sbin_neq, b8, List.map_cons, List.map_nil, PV.rens, PV.ren, if_true, if_false, Bool.false_eq_true, reduceIte, Nat.reduceAdd, Nat.reduceSub, Nat.reduceMul, Nat.reduceEqDiff, Nat.reduceLeDiff, Int.reduceLE, Int.reduceLT, Int.reduceEq, Int.reduceToNat, Int.reduceAdd, Int.reduceSub, Int.reduceNeg, decide_true, decide_false, Bool.not_true, Bool.not_false, Bool.true_and, Bool.false_and, Bool.and_true, Bool.and_false, Bool.or_true, Bool.true_or, Bool.or_false, Bool.false_or, and_self, and_true, true_and, Nat.le_refl, Nat.zero_add, Nat.mul_one, Nat.one_ne_zero, Nat.zero_le, highP, lowP, Option.map_some, Option.map_none, List.drop_zero, List.take_zero, List.length_cons, List.length_nil, List.nil_append, List.append_nil, List.cons_append, fillP, PV.cells?, PV.one, PV.cleans, PV.clean, PV.of?, List.all_cons, List.all_nil, List.take_succ_cons, List.drop_succ_cons, Bool.and_self, Int.natCast_nonneg, Int.toNat_natCast, Int.toNat_zero, Tk.ren, PV.of?, hi, w1, w2, w3, r8, w4, m0, m1, m2, m3, m4, m5, m6, c1, hs, hb, Nat.zero_lt_one, tailP, r1, hz, List.getElem?_cons_zero, List.getElem?_cons_succ, List.set_cons_zero, true_or, or_true]
theorem out_snoc (s : Snd) (p : Int) (m : Nat) : (chunks s p m).flatMap Frm.cells ++ (chunkF s (p + m)).cells = (chunks s p (m + 1)).flatMap Frm.cells := by
  rw [chunks_succ, List.flatMap_append]; simp
theorem chunks_len (s : Snd) (p : Int) (m : Nat) : (chunks s p m).length = m := by unfold chunks; simp
theorem loop_pieces (s : Snd) (p t : Int) (hp : 0 ≤ p) (ht : t ≤ s.cnt) (hl : s.l.length ≤ 6000) (k0 : Nat) : ∀ (n m k : Nat) (z : Nat), p + m + n = t → n < k → (z = 5 ∨ z = 0 ∧ m = 0) → ∀ j, j = 1 ∨ j = 0 →
    loopL 0 (evL TS k0 q33_1) k [.int .i64 t, .ep (sndC s.N s.l s.R s.B s.X s.W s.O) 0, .sl (.tok j) z m ((chunks s p m).flatMap Frm.cells), .int .i64 (p + m)] (if j = 1 then [.dead, .tok] else [.tok]) =
      some (.ex 0, [.sl (.tok 0) (if 0 < n then 5 else z) (m + n) ((chunks s p (m + n)).flatMap Frm.cells)], [.tok]) := by
  have hc : s.cnt ≤ 200 := by unfold Snd.cnt cnt; omega
  intro n
  induction n with
  | zero =>
    intro m k z h1 h2 hz j hj
    obtain ⟨k, rfl⟩ : ∃ k', k = k' + 1 := ⟨k - 1, by omega⟩
    have hh : headS 0 [.int .i64 t, .ep (sndC s.N s.l s.R s.B s.X s.W s.O) 0, .sl (.tok j) z m ((chunks s p m).flatMap Frm.cells), .int .i64 (p + m)] (if j = 1 then [.dead, .tok] else [.tok]) = ([.int .i64 t, .ep (sndC s.N s.l s.R s.B s.X s.W s.O) 0, .sl (.tok 0) z m ((chunks s p m).flatMap Frm.cells), .int .i64 (p + m)], [.tok]) := by
      rcases hj with rfl | rfl <;> rfl
    have h3 : ¬ (p + m < t) := by omega
    rw [loopL_succ, hh]
    simp only [q33_1, evL_op, evL_sel, evL_nx, evL_exit, evL_ret, evL_join, evL_block, evL_cond, evK_some, evJ_nx, evJ_rt, evJ_ex, evB_nx, evB_rt, evB_ex, evC2_bool, evS_and, evS_or, evS_tf, evS_ft, ev_t, ev_s, ev_c, evalOp, bin_add, bin_sub, bin_mul, bin_eql, bin_neq, bin_lss, bin_leq, bin_gtr, bin_geq, sbin_eql, sbin_neq, b8, List.map_cons, List.map_nil, PV.rens, PV.ren, if_true, if_false, Bool.false_eq_true, reduceIte, Nat.reduceAdd, Nat.reduceSub, Nat.reduceMul, Nat.reduceEqDiff, Nat.reduceLeDiff, Int.reduceLE, Int.reduceLT, Int.reduceEq, Int.reduceToNat, Int.reduceAdd, Int.reduceSub, Int.reduceNeg, decide_true, decide_false, Bool.not_true, Bool.not_false, Bool.true_and, Bool.false_and, Bool.and_true, Bool.and_false, Bool.or_true, Bool.true_or, Bool.or_false, Bool.false_or, and_self, and_true, true_and, Nat.le_refl, Nat.zero_add, Nat.mul_one, Nat.one_ne_zero, Nat.zero_le, highP, lowP, Option.map_some, Option.map_none, List.drop_zero, List.take_zero, List.length_cons, List.length_nil, List.nil_append, List.append_nil, List.cons_append, fillP, PV.cells?, PV.one, PV.cleans, PV.clean, PV.of?, List.all_cons, List.all_nil, List.take_succ_cons, List.drop_succ_cons, Bool.and_self, Int.natCast_nonneg, Int.toNat_natCast, Int.toNat_zero, h3, Nat.lt_irrefl, Nat.add_zero]
  | succ n ih =>
    intro m k z h1 h2 hz j hj
    obtain ⟨k, rfl⟩ : ∃ k', k = k' + 1 := ⟨k - 1, by omega⟩
    have hh : headS 0 [.int .i64 t, .ep (sndC s.N s.l s.R s.B s.X s.W s.O) 0, .sl (.tok j) z m ((chunks s p m).flatMap Frm.cells), .int .i64 (p + m)] (if j = 1 then [.dead, .tok] else [.tok]) = ([.int .i64 t, .ep (sndC s.N s.l s.R s.B s.X s.W s.O) 0, .sl (.tok 0) z m ((chunks s p m).flatMap Frm.cells), .int .i64 (p + m)], [.tok]) := by
      rcases hj with rfl | rfl <;> rfl
    have ih' := ih (m + 1) k 5 (by omega) (by omega) (.inl rfl) 1 (.inl rfl)
    rw [loopL_succ, hh]
    dsimp only
    rw [body_pieces s t (p + m) z m _ (by omega) (by omega) ht hl (by omega) (by omega), out_snoc, show p + (m : Int) + 1 = p + ((m + 1 : Nat) : Int) by omega]
    refine Eq.trans ih' ?_
    rw [show m + 1 + n = m + (n + 1) by omega]
    simp
theorem T_pieces (s : Snd) (p t : Int) (hp : 0 ≤ p) (hpt : p < t) (ht : t ≤ s.cnt) (hl : s.l.length ≤ 6000) : TS 33 [s.pv, .int .i64 p, .int .i64 t] [] = some (.sl (.tok 0) 5 (t - p).toNat ((chunks s p (t - p).toNat).flatMap Frm.cells), [.tok]) := by
  have hc : s.cnt ≤ 200 := by unfold Snd.cnt cnt; omega
  refine evT_of (k := (t - p).toNat + 1) (F := l33) (H' := [.tok]) (e := [.sl (.tok 0) 5 (t - p).toNat ((chunks s p (t - p).toNat).flatMap Frm.cells)]) (l := [.sl (.tok 0) 5 (t - p).toNat ((chunks s p (t - p).toNat).flatMap Frm.cells)]) rfl rfl rfl ?_ rfl rfl
  have h1 := loop_pieces s p t hp ht hl ((t - p).toNat + 1) (t - p).toNat 0 ((t - p).toNat + 1) 0 (by omega) (by omega) (.inr ⟨rfl, rfl⟩) 0 (.inr rfl)
  have h2 : loopL 0 (evL TS ((t - p).toNat + 1) q33_1) ((t - p).toNat + 1) [.int .i64 t, .ep (sndC s.N s.l s.R s.B s.X s.W s.O) 0, .sl .nil 0 0 [], .int .i64 p] [] =
      loopL 0 (evL TS ((t - p).toNat + 1) q33_1) ((t - p).toNat + 1) [.int .i64 t, .ep (sndC s.N s.l s.R s.B s.X s.W s.O) 0, .sl (.tok 0) 0 0 [], .int .i64 p] [.tok] := by
    rw [loopL_succ, loopL_succ, head_pieces0, head_pieces1]
  have h3 : 0 < (t - p).toNat := by omega
  have e0 : p + ((0 : Nat) : Int) = p := by omega
  have e1 : (chunks s p 0).flatMap Frm.cells = [] := rfl
  simp only [if_pos h3, Nat.zero_add, e0, e1, Nat.zero_ne_one, if_false] at h1
  obtain ⟨N, l, R, B, X, W, O⟩ := s
  show evL TS ((t - p).toNat + 1) q33 _ _ = _
  simp only [q33, evL_op, evL_sel, evL_nx, evL_exit, evL_ret, evL_join, evL_block, evL_cond, evK_some, evJ_nx, evJ_rt, evJ_ex, evB_nx, evB_rt, evB_ex, evC2_bool, evS_and, evS_or, evS_tf, evS_ft, ev_t, ev_s, ev_c, evalOp, bin_add, bin_sub, bin_mul, bin_eql, bin_neq, bin_lss, bin_leq, bin_gtr, bin_geq, sbin_eql, sbin_neq, b8, List.map_cons, List.map_nil, PV.rens, PV.ren, if_true, if_false, Bool.false_eq_true, reduceIte, Nat.reduceAdd, Nat.reduceSub, Nat.reduceMul, Nat.reduceEqDiff, Nat.reduceLeDiff, Int.reduceLE, Int.reduceLT, Int.reduceEq, Int.reduceToNat, Int.reduceAdd, Int.reduceSub, Int.reduceNeg, decide_true, decide_false, Bool.not_true, Bool.not_false, Bool.true_and, Bool.false_and, Bool.and_true, Bool.and_false, Bool.or_true, Bool.true_or, Bool.or_false, Bool.false_or, and_self, and_true, true_and, Nat.le_refl, Nat.zero_add, Nat.mul_one, Nat.one_ne_zero, Nat.zero_le, highP, lowP, Option.map_some, Option.map_none, List.drop_zero, List.take_zero, List.length_cons, List.length_nil, List.nil_append, List.append_nil, List.cons_append, fillP, PV.cells?, PV.one, PV.cleans, PV.clean, PV.of?, List.all_cons, List.all_nil, List.take_succ_cons, List.drop_succ_cons, Bool.and_self, Int.natCast_nonneg, Int.toNat_natCast, Int.toNat_zero, PV.of?, evL_loop]
  rw [h2, h1]
  rfl
end Go.Proofs.Ytlbajfhioebphaa.Tab
