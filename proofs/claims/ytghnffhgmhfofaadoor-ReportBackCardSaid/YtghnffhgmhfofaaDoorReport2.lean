/- Reports: the document's answer, and what is read of a report. -/
import Derived.Test.YtghnffhgmhfofaaDoorReport
namespace Go.Proofs.YtghnffhgmhfofaaDoor.Tab
set_option linter.all false
open Go Go.RowKit Go.Proofs.YtghnffhgmhfofaaDoor.Ev
theorem join_take {L : List (List UInt8)} {i : Nat} (h : i < L.length) : join (L.take (i + 1)) = join (L.take i) ++ L[i] ++ [13, 10] := by
  rw [List.take_succ_eq_append_getElem h, join_app, join_one, List.append_assoc]
theorem join_take_len (L : List (List UInt8)) (i : Nat) : (join (L.take i)).length ≤ (join L).length := by
  have : join L = join (L.take i) ++ join (L.drop i) := by rw [← join_app, List.take_append_drop]
  rw [this, List.length_append]; omega
theorem get_str {L : List (List UInt8)} {i : Nat} (h : i < L.length) : ((L.map PV.str).drop i).take 1 = [PV.str L[i]] := by
  rw [← List.map_drop, List.drop_eq_getElem_cons h, List.map_cons]; rfl
theorem loop_rep (k0 : Nat) (L : List (List UInt8)) (hl : (join L).length ≤ 1000000000) (hL : L.length ≤ 1000000) (kk : Nat) (hk : L.length < kk) :
    loopL 0 (evL T k0 q12_1) kk [.sl .no 1 L.length (L.map PV.str), .str [], .int .i64 0] [] = some (.ex 0, [.str (join L)], []) := by
  refine loop_law (n := 0) (body := evL T k0 q12_1) (σ := Nat) (fun i => [.sl .no 1 L.length (L.map PV.str), .str (join (L.take i)), .int .i64 i]) (fun _ => []) (fun i => L.length - i) (fun i => i ≤ L.length)
    (fun i => (.ex 0, [.str (join L)], [])) (fun i hi => ?_) kk 0 _ _ rfl (Nat.zero_le _) (by omega)
  rcases Nat.lt_or_ge i L.length with h | h
  · refine .inr ⟨i + 1, ?_⟩
    apply Exists.intro
    apply Exists.intro
    refine ⟨?_, ?_, by omega, by omega, rfl⟩
    · have h1 : (i : Int) < L.length := by omega
      have hg := get_str h
      have hj := join_take h
      have hjl := join_take_len L (i + 1)
      rw [hj] at hjl
      simp only [List.length_append, List.length_cons, List.length_nil] at hjl
      have a1 := sbin_add (s := join (L.take i)) (u := L[i]) (by omega)
      have a2 := sbin_add (s := join (L.take i) ++ L[i]) (u := [13, 10]) (by simp only [List.length_append, List.length_cons, List.length_nil]; omega)
      rw [← hj] at a2
      simp only [q12_1, q12_0, evL_op, evL_sel, evL_nx, evL_exit, evL_ret, evL_join, evL_block, evL_cond, evK_some, evJ_nx, evJ_rt, evJ_ex, evB_nx, evB_rt, evB_ex, evC2_bool, evS_and, evS_or, evS_tf, evS_ft, ev_t, ev_s, ev_c, evalOp, bin_add, bin_sub, bin_mul, bin_eql, bin_neq, bin_lss, bin_leq, bin_gtr, bin_geq, sbin_eql, sbin_neq, b8, List.map_cons, List.map_nil, PV.rens, PV.ren, if_true, if_false, Bool.false_eq_true, reduceIte, Nat.reduceAdd, Nat.reduceSub, Nat.reduceMul, Nat.reduceEqDiff, Nat.reduceLeDiff, Int.reduceLE, Int.reduceLT, Int.reduceEq, Int.reduceToNat, Int.reduceAdd, Int.reduceSub, Int.reduceNeg, decide_true, decide_false, Bool.not_true, Bool.not_false, Bool.true_and, Bool.false_and, Bool.and_true, Bool.and_false, Bool.or_true, Bool.true_or, Bool.or_false, Bool.false_or, and_self, and_true, true_and, Nat.le_refl, Nat.zero_add, Nat.mul_one, Nat.one_ne_zero, Nat.zero_le, highP, lowP, Option.map_some, Option.map_none, List.drop_zero, List.take_zero, List.length_cons, List.length_nil, List.nil_append, List.append_nil, List.cons_append, fillP, PV.cells?, PV.one, PV.cleans, PV.clean, PV.of?, List.all_cons, List.all_nil, List.take_succ_cons, List.drop_succ_cons, Bool.and_self, Int.natCast_nonneg, Int.toNat_natCast, Int.toNat_zero, PV.of?, Tk.ren, tailP, evL_loop, or_true, true_or, Nat.zero_lt_one, Nat.sub_zero, List.getElem?_cons_zero, List.getElem?_cons_succ, List.set_cons_zero, List.set_cons_succ, List.take_length, h1, hg, a1, a2, wr1 (show i < 9223372036854775807 by omega)]
      rfl
    · rfl
  · refine .inl ⟨?_, by simp⟩
    have h1 : ¬ (i : Int) < L.length := by omega
    rw [List.take_of_length_le h]
    simp only [q12_1, evL_op, evL_sel, evL_nx, evL_exit, evL_ret, evL_join, evL_block, evL_cond, evK_some, evJ_nx, evJ_rt, evJ_ex, evB_nx, evB_rt, evB_ex, evC2_bool, evS_and, evS_or, evS_tf, evS_ft, ev_t, ev_s, ev_c, evalOp, bin_add, bin_sub, bin_mul, bin_eql, bin_neq, bin_lss, bin_leq, bin_gtr, bin_geq, sbin_eql, sbin_neq, b8, List.map_cons, List.map_nil, PV.rens, PV.ren, if_true, if_false, Bool.false_eq_true, reduceIte, Nat.reduceAdd, Nat.reduceSub, Nat.reduceMul, Nat.reduceEqDiff, Nat.reduceLeDiff, Int.reduceLE, Int.reduceLT, Int.reduceEq, Int.reduceToNat, Int.reduceAdd, Int.reduceSub, Int.reduceNeg, decide_true, decide_false, Bool.not_true, Bool.not_false, Bool.true_and, Bool.false_and, Bool.and_true, Bool.and_false, Bool.or_true, Bool.true_or, Bool.or_false, Bool.false_or, and_self, and_true, true_and, Nat.le_refl, Nat.zero_add, Nat.mul_one, Nat.one_ne_zero, Nat.zero_le, highP, lowP, Option.map_some, Option.map_none, List.drop_zero, List.take_zero, List.length_cons, List.length_nil, List.nil_append, List.append_nil, List.cons_append, fillP, PV.cells?, PV.one, PV.cleans, PV.clean, PV.of?, List.all_cons, List.all_nil, List.take_succ_cons, List.drop_succ_cons, Bool.and_self, Int.natCast_nonneg, Int.toNat_natCast, Int.toNat_zero, PV.of?, Tk.ren, tailP, evL_loop, or_true, true_or, Nat.zero_lt_one, Nat.sub_zero, List.getElem?_cons_zero, List.getElem?_cons_succ, List.set_cons_zero, List.set_cons_succ, List.take_length, h1]
section
variable (s : List UInt8) (n : Bool) (l d : List UInt8) (m : Bool) (k e : List UInt8) (hl : s.length + l.length + d.length + k.length + e.length ≤ 100000)
include hl
theorem T12 : T 12 [.str s, pathV n l d, pathV m k e] [] = some (.sl (.tok 0) 1 (rep s (textOf n l d) (textOf m k e)).length ((rep s (textOf n l d) (textOf m k e)).map b8), [.tok]) := by
  have c1 := T29 n l d (by omega)
  have c2 := T29 m k e (by omega)
  have la := textOf_len n l d
  have lb := textOf_len m k e
  generalize textOf n l d = a at *
  generalize textOf m k e = b at *
  refine evT_of (k := 20) (F := l12) (H' := [.tok]) (e := [.sl (.tok 0) 1 (rep s a b).length ((rep s a b).map b8)]) (l := [.sl (.tok 0) 1 (rep s a b).length ((rep s a b).map b8)]) rfl rfl rfl ?_ rfl rfl
  show evL T 20 q12 _ _ = _
  have s1 := sbin_add (s := cFrom) (u := s) (by simp only [cFrom_len, cTo_len, cSubj_len, cMulti_len, cDash_len, cPlain_len, cNo_len, cMsg_len, cMta_len, cFin_len, cAct_len, cSta_len, cEnd_len, cMtaF_len, cToF_len, cFinF_len]; omega)
  have s2 := sbin_add (s := cFrom ++ s) (u := [62]) (by simp only [List.length_append, List.length_cons, List.length_nil, cFrom_len, cTo_len, cSubj_len, cMulti_len, cDash_len, cPlain_len, cNo_len, cMsg_len, cMta_len, cFin_len, cAct_len, cSta_len, cEnd_len, cMtaF_len, cToF_len, cFinF_len]; omega)
  have s3 := sbin_add (s := cTo) (u := a) (by simp only [cFrom_len, cTo_len, cSubj_len, cMulti_len, cDash_len, cPlain_len, cNo_len, cMsg_len, cMta_len, cFin_len, cAct_len, cSta_len, cEnd_len, cMtaF_len, cToF_len, cFinF_len]; omega)
  have s4 := sbin_add (s := cNo) (u := b) (by simp only [cFrom_len, cTo_len, cSubj_len, cMulti_len, cDash_len, cPlain_len, cNo_len, cMsg_len, cMta_len, cFin_len, cAct_len, cSta_len, cEnd_len, cMtaF_len, cToF_len, cFinF_len]; omega)
  have s5 := sbin_add (s := cNo ++ b) (u := [46]) (by simp only [List.length_append, List.length_cons, List.length_nil, cFrom_len, cTo_len, cSubj_len, cMulti_len, cDash_len, cPlain_len, cNo_len, cMsg_len, cMta_len, cFin_len, cAct_len, cSta_len, cEnd_len, cMtaF_len, cToF_len, cFinF_len]; omega)
  have s6 := sbin_add (s := cMta) (u := s) (by simp only [cFrom_len, cTo_len, cSubj_len, cMulti_len, cDash_len, cPlain_len, cNo_len, cMsg_len, cMta_len, cFin_len, cAct_len, cSta_len, cEnd_len, cMtaF_len, cToF_len, cFinF_len]; omega)
  have s7 := sbin_add (s := cFin) (u := b) (by simp only [cFrom_len, cTo_len, cSubj_len, cMulti_len, cDash_len, cPlain_len, cNo_len, cMsg_len, cMta_len, cFin_len, cAct_len, cSta_len, cEnd_len, cMtaF_len, cToF_len, cFinF_len]; omega)
  have lp : loopL 0 (evL T 20 q12_1) 20 [.sl .no 1 18 [.str (cFrom ++ s ++ [62]), .str (cTo ++ a), .str cSubj, .str cMulti, .str [], .str cDash, .str cPlain, .str [], .str (cNo ++ b ++ [46]), .str cDash, .str cMsg, .str [], .str (cMta ++ s), .str [], .str (cFin ++ b), .str cAct, .str cSta, .str cEnd], .str [], .int .i64 0] [] = some (.ex 0, [.str (rep s a b)], []) :=
    loop_rep 20 (repL s a b) (by show (rep s a b).length ≤ _; rw [rep_len]; omega) (by decide : 18 ≤ 1000000) 20 (by decide : 18 < 20)
  generalize rep s a b = R at *
  simp only [q12, ← cFrom_def, ← cTo_def, ← cSubj_def, ← cMulti_def, ← cDash_def, ← cPlain_def, ← cNo_def, ← cMsg_def, ← cMta_def, ← cFin_def, ← cAct_def, ← cSta_def, ← cEnd_def, ← cMtaF_def, ← cToF_def, ← cFinF_def, evL_op, evL_sel, evL_nx, evL_exit, evL_ret, evL_join, evL_block, evL_cond, evK_some, evJ_nx, evJ_rt, evJ_ex, evB_nx, evB_rt, evB_ex, evC2_bool, evS_and, evS_or, evS_tf, evS_ft, ev_t, ev_s, ev_c, evalOp, bin_add, bin_sub, bin_mul, bin_eql, bin_neq, bin_lss, bin_leq, bin_gtr, bin_geq, sbin_eql, sbin_neq, b8, List.map_cons, List.map_nil, PV.rens, PV.ren, if_true, if_false, Bool.false_eq_true, reduceIte, Nat.reduceAdd, Nat.reduceSub, Nat.reduceMul, Nat.reduceEqDiff, Nat.reduceLeDiff, Int.reduceLE, Int.reduceLT, Int.reduceEq, Int.reduceToNat, Int.reduceAdd, Int.reduceSub, Int.reduceNeg, decide_true, decide_false, Bool.not_true, Bool.not_false, Bool.true_and, Bool.false_and, Bool.and_true, Bool.and_false, Bool.or_true, Bool.true_or, Bool.or_false, Bool.false_or, and_self, and_true, true_and, Nat.le_refl, Nat.zero_add, Nat.mul_one, Nat.one_ne_zero, Nat.zero_le, highP, lowP, Option.map_some, Option.map_none, List.drop_zero, List.take_zero, List.length_cons, List.length_nil, List.nil_append, List.append_nil, List.cons_append, fillP, PV.cells?, PV.one, PV.cleans, PV.clean, PV.of?, List.all_cons, List.all_nil, List.take_succ_cons, List.drop_succ_cons, Bool.and_self, Int.natCast_nonneg, Int.toNat_natCast, Int.toNat_zero, PV.of?, Tk.ren, tailP, evL_loop, or_true, true_or, Nat.zero_lt_one, Nat.sub_zero, List.getElem?_cons_zero, List.getElem?_cons_succ, List.set_cons_zero, List.set_cons_succ, List.take_length, PV.rens, PV.ren, c1, c2, s1, s2, s3, s4, s5, s6, s7]
  rw [lp]
  simp only [q12_2, evL_op, evL_sel, evL_nx, evL_exit, evL_ret, evL_join, evL_block, evL_cond, evK_some, evJ_nx, evJ_rt, evJ_ex, evB_nx, evB_rt, evB_ex, evC2_bool, evS_and, evS_or, evS_tf, evS_ft, ev_t, ev_s, ev_c, evalOp, bin_add, bin_sub, bin_mul, bin_eql, bin_neq, bin_lss, bin_leq, bin_gtr, bin_geq, sbin_eql, sbin_neq, b8, List.map_cons, List.map_nil, PV.rens, PV.ren, if_true, if_false, Bool.false_eq_true, reduceIte, Nat.reduceAdd, Nat.reduceSub, Nat.reduceMul, Nat.reduceEqDiff, Nat.reduceLeDiff, Int.reduceLE, Int.reduceLT, Int.reduceEq, Int.reduceToNat, Int.reduceAdd, Int.reduceSub, Int.reduceNeg, decide_true, decide_false, Bool.not_true, Bool.not_false, Bool.true_and, Bool.false_and, Bool.and_true, Bool.and_false, Bool.or_true, Bool.true_or, Bool.or_false, Bool.false_or, and_self, and_true, true_and, Nat.le_refl, Nat.zero_add, Nat.mul_one, Nat.one_ne_zero, Nat.zero_le, highP, lowP, Option.map_some, Option.map_none, List.drop_zero, List.take_zero, List.length_cons, List.length_nil, List.nil_append, List.append_nil, List.cons_append, fillP, PV.cells?, PV.one, PV.cleans, PV.clean, PV.of?, List.all_cons, List.all_nil, List.take_succ_cons, List.drop_succ_cons, Bool.and_self, Int.natCast_nonneg, Int.toNat_natCast, Int.toNat_zero, PV.of?, Tk.ren, tailP, evL_loop, or_true, true_or, Nat.zero_lt_one, Nat.sub_zero, List.getElem?_cons_zero, List.getElem?_cons_succ, List.set_cons_zero, List.set_cons_succ, List.take_length]
theorem T10 : T 10 [.str s, pathV n l d, pathV m k e] [] = some (.bool (rightR s n l d m k e), []) := by
  have c1 := T28 n l d (by omega) (by omega)
  have c2 := T28 m k e (by omega) (by omega)
  have c3 := T27 s (by omega)
  refine evT_of (k := 0) (F := l10) (H' := []) (e := [.bool (rightR s n l d m k e)]) (l := [.bool (rightR s n l d m k e)]) rfl rfl rfl ?_ rfl rfl
  show evL T 0 q10 _ _ = _
  unfold rightR
  simp only [q10, evL_op, evL_sel, evL_nx, evL_exit, evL_ret, evL_join, evL_block, evL_cond, evK_some, evJ_nx, evJ_rt, evJ_ex, evB_nx, evB_rt, evB_ex, evC2_bool, evS_and, evS_or, evS_tf, evS_ft, ev_t, ev_s, ev_c, evalOp, bin_add, bin_sub, bin_mul, bin_eql, bin_neq, bin_lss, bin_leq, bin_gtr, bin_geq, sbin_eql, sbin_neq, b8, List.map_cons, List.map_nil, PV.rens, PV.ren, if_true, if_false, Bool.false_eq_true, reduceIte, Nat.reduceAdd, Nat.reduceSub, Nat.reduceMul, Nat.reduceEqDiff, Nat.reduceLeDiff, Int.reduceLE, Int.reduceLT, Int.reduceEq, Int.reduceToNat, Int.reduceAdd, Int.reduceSub, Int.reduceNeg, decide_true, decide_false, Bool.not_true, Bool.not_false, Bool.true_and, Bool.false_and, Bool.and_true, Bool.and_false, Bool.or_true, Bool.true_or, Bool.or_false, Bool.false_or, and_self, and_true, true_and, Nat.le_refl, Nat.zero_add, Nat.mul_one, Nat.one_ne_zero, Nat.zero_le, highP, lowP, Option.map_some, Option.map_none, List.drop_zero, List.take_zero, List.length_cons, List.length_nil, List.nil_append, List.append_nil, List.cons_append, fillP, PV.cells?, PV.one, PV.cleans, PV.clean, PV.of?, List.all_cons, List.all_nil, List.take_succ_cons, List.drop_succ_cons, Bool.and_self, Int.natCast_nonneg, Int.toNat_natCast, Int.toNat_zero, PV.of?, Tk.ren, tailP, evL_loop, or_true, true_or, Nat.zero_lt_one, Nat.sub_zero, List.getElem?_cons_zero, List.getElem?_cons_succ, List.set_cons_zero, List.set_cons_succ, List.take_length, PV.rens, PV.ren, c1, c2, c3]
end
/-- The report of what is right: what stands where. -/
theorem repL_cl {s a b : List UInt8} (hs : Cl s) (ha : Cl a) (hb : Cl b) : ∀ x ∈ repL s a b, Cl x := by
  have dec : ∀ x : List UInt8, cleanB x = true → Cl x := fun x h => cleanB_iff.1 h
  intro x hx
  simp only [repL, List.mem_cons, List.not_mem_nil, or_false] at hx
  rcases hx with rfl | rfl | rfl | rfl | rfl | rfl | rfl | rfl | rfl | rfl | rfl | rfl | rfl | rfl | rfl | rfl | rfl | rfl
  · exact ((dec cFrom rfl).app hs).app (dec [62] rfl)
  · exact (dec cTo rfl).app ha
  · exact dec cSubj rfl
  · exact dec cMulti rfl
  · exact Cl.nil
  · exact dec cDash rfl
  · exact dec cPlain rfl
  · exact Cl.nil
  · exact ((dec cNo rfl).app hb).app (dec [46] rfl)
  · exact dec cDash rfl
  · exact dec cMsg rfl
  · exact Cl.nil
  · exact (dec cMta rfl).app hs
  · exact Cl.nil
  · exact (dec cFin rfl).app hb
  · exact dec cAct rfl
  · exact dec cSta rfl
  · exact dec cEnd rfl
theorem domain_cl {d : List UInt8} (h : parts d 255 label = true) : Cl d := fun c hc => by
  rcases domain_chars h c hc with h | rfl
  · refine ⟨fun e => ?_, fun e => ?_⟩ <;> subst e <;> exact absurd h (by decide)
  · decide
theorem local_cl {d : List UInt8} (h : parts d 64 atom = true) : Cl d := fun c hc => by
  rcases local_chars h c hc with h | rfl
  · refine ⟨fun e => ?_, fun e => ?_⟩ <;> subst e <;> exact absurd h (by decide)
  · decide
theorem text_cl {l d : List UInt8} (h : pathOk false l d = true) : Cl (textOf false l d) := by
  unfold pathOk at h
  simp only [Bool.false_and, Bool.false_or, Bool.not_false, Bool.true_and, Bool.and_eq_true] at h
  have h1 := local_cl h.1
  have h2 := domain_cl h.2
  unfold textOf
  rw [if_neg (by decide)]
  intro x hx
  simp only [List.mem_cons, List.mem_append, List.not_mem_nil, or_false] at hx
  rcases hx with rfl | hx | rfl | hx | rfl
  · decide
  · exact h1 x hx
  · decide
  · exact h2 x hx
  · decide
theorem right_cl {s : List UInt8} {n : Bool} {l d : List UInt8} {m : Bool} {k e : List UInt8} (h : rightR s n l d m k e = true) : n = false ∧ m = false ∧ pathOk n l d = true ∧ pathOk m k e = true ∧ Cl s ∧ Cl (textOf n l d) ∧ Cl (textOf m k e) := by
  unfold rightR at h
  simp only [Bool.and_eq_true, Bool.not_eq_true'] at h
  obtain ⟨⟨⟨⟨h1, h2⟩, h3⟩, rfl⟩, rfl⟩ := h
  exact ⟨rfl, rfl, h2, h3, domain_cl h1, text_cl h2, text_cl h3⟩
theorem rep_lines {s : List UInt8} {n : Bool} {l d : List UInt8} {m : Bool} {k e : List UInt8} (h : rightR s n l d m k e = true) : lines (rep s (textOf n l d) (textOf m k e)) = repL s (textOf n l d) (textOf m k e) := by
  obtain ⟨_, _, _, _, h1, h2, h3⟩ := right_cl h
  exact lines_join (repL_cl h1 h2 h3)
theorem parseV_len (s : List UInt8) : ∃ n l d, parseV s = pathV n l d ∧ l.length + d.length ≤ s.length := by
  cases h : parseOk s with
  | true => obtain ⟨n, l, d, h1, _, _, h2⟩ := text_parse h; exact ⟨n, l, d, h1, h2⟩
  | false => exact ⟨false, [], [], bad_parse h, by simp⟩
end Go.Proofs.YtghnffhgmhfofaaDoor.Tab
