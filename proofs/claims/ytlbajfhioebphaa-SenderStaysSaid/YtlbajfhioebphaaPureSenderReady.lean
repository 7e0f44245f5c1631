/- SenderReady: it is true. -/
import Derived.Test.YtlbajfhioebphaaSenderI
namespace Go.Proofs.Ytlbajfhioebphaa.Tab
set_option linter.all false
open Go Go.RowKit Go.Proofs.Ytlbajfhioebphaa.Ev
abbrev SndV := Int × List UInt8 × Bool × Int × Int × Int × Bool
abbrev SndQ (p : SndV) : Prop := (Lit.int .i64 p.1).wf = true ∧ (p.2.1.length ≤ room ∧ ∀ y ∈ p.2.1, True) ∧ True ∧ (Lit.int .i64 p.2.2.2.1).wf = true ∧ (Lit.int .i64 p.2.2.2.2.1).wf = true ∧ (Lit.int .i64 p.2.2.2.2.2.1).wf = true ∧ True
abbrev SndM (p : SndV) : PV := .agg ([.int .i64 p.1] ++ ([.sl .no 1 p.2.1.length (p.2.1.map b8)] ++ ([.bool p.2.2.1] ++ ([.int .i64 p.2.2.2.1] ++ ([.int .i64 p.2.2.2.2.1] ++ ([.int .i64 p.2.2.2.2.2.1] ++ [.bool p.2.2.2.2.2.2]))))))
theorem u64_pos (a : Int) : 0 ≤ IntKind.u64.wrap a ∧ IntKind.u64.wrap a ≤ 18446744073709551615 := by
  simp [IntKind.wrap, IntKind.bits, IntKind.signed]; omega
theorem body_ready (s x : Snd) (hx : x.l = s.l) (P : Int) (m k : Nat) (hk : k < m) (hP : 0 ≤ P) (hm : P + m ≤ s.cnt) (hl : s.l.length ≤ 6000) (k0 : Nat) (H : Hp) :
    evL TS k0 q9_1 [.int .i64 P, .ep (sndC s.N s.l s.R s.B s.X s.W s.O) 0, .sl .no 5 m ((chunks x P m).flatMap Frm.cells), .int .i64 k] H =
      some (.nx, [.int .i64 P, .ep (sndC s.N s.l s.R s.B s.X s.W s.O) 0, .sl .no 5 m ((chunks x P m).flatMap Frm.cells), .int .i64 (k + 1 : Nat)], H) := by
  have hc : s.cnt ≤ 200 := by unfold Snd.cnt cnt; omega
  have hxc : x.cnt = s.cnt := by unfold Snd.cnt; rw [hx]
  have h1 : (k : Int) < m := by omega
  have h3 : (P + k) * 48 < s.l.length := by unfold Snd.cnt cnt at hm; omega
  have w1 : IntKind.i64.wrap ((k : Int) + 1) = ((k + 1 : Nat) : Int) := wr (by omega) (by omega)
  have w2 : IntKind.i64.wrap (P + k) = P + k := wr (by omega) (by omega)
  have w3 : IntKind.i64.wrap ((P + k) * 48) = (P + k) * 48 := wr (by omega) (by omega)
  have w4 : IntKind.i64.wrap ((P + k) * 48 + 48) = (P + k) * 48 + 48 := wr (by omega) (by omega)
  have w5 : IntKind.i64.wrap ((P + k).tmod 8) = (P + k).tmod 8 := by rw [Int.tmod_eq_emod_of_nonneg (by omega)]; exact wr (by omega) (by omega)
  have g := get_chunk x P m k hk
  have hd := chunk_dpv (s := x) (i := P + k) (by omega) (by omega) (by rw [hx]; omega)
  have hp := chunk_len (s := x) (i := P + k) (by omega) (by omega) (by rw [hx]; omega)
  have hb : (chunkF x (P + k)).cells = [.int .i64 3, .int .i64 x.N, .int .i64 ((P + k) * 48), .int .i64 ((P + k).tmod 8), sl8 (chunkF x (P + k)).d] := by
    unfold Frm.cells; rw [hd]; rfl
  rw [hb] at g
  have m0 : (if (s.l.length : Int) < (P + k) * 48 + 48 then (s.l.length : Int) else (P + k) * 48 + 48) = mn ((P + k) * 48 + 48) s.l.length := rfl
  have m1 : (P + k) * 48 ≤ mn ((P + k) * 48 + 48) s.l.length := by rw [le_mn]; omega
  have m2 : mn ((P + k) * 48 + 48) s.l.length ≤ s.l.length := by unfold mn; split <;> omega
  have m3 : 0 ≤ mn ((P + k) * 48 + 48) s.l.length := by omega
  have m4 : 0 ≤ (P + k) * 48 := by omega
  have m5 : ((P + k) * 48).toNat ≤ (mn ((P + k) * 48 + 48) s.l.length).toNat := by omega
  have m6 : (mn ((P + k) * 48 + 48) s.l.length).toNat ≤ s.l.length := by omega
  have hs : PV.sl .no 1 ((mn ((P + k) * 48 + 48) s.l.length).toNat - ((P + k) * 48).toNat) (((s.l.map b8).take (mn ((P + k) * 48 + 48) s.l.length).toNat).drop ((P + k) * 48).toNat) = sl8 (chunkF x (P + k)).d := by
    unfold sl8 chunkF
    dsimp only
    rw [hx, List.map_drop, List.map_take, List.length_drop, List.length_take, Nat.min_eq_left m6]
  have c1 := T_bytes8 (chunkF x (P + k)).d (chunkF x (P + k)).d (by have := hp.1; unfold mn at this; split at this <;> omega)
  simp only [q9_1, q9_0, evL_op, evL_sel, evL_nx, evL_exit, evL_ret, evL_join, evL_block, evL_cond, evK_some, evJ_nx, evJ_rt, evJ_ex, evB_nx, evB_rt, evB_ex, evC2_bool, evS_and, evS_or, evS_tf, evS_ft, ev_t, ev_s, ev_c, evalOp, bin_add, bin_sub, bin_mul, bin_eql, bin_neq, bin_lss, bin_leq, bin_gtr, bin_geq, sbin_eql, sbin_neq, b8, List.map_cons, List.map_nil, PV.rens, PV.ren, if_true, if_false, Bool.false_eq_true, reduceIte, Nat.reduceAdd, Nat.reduceSub, Nat.reduceMul, Nat.reduceEqDiff, Nat.reduceLeDiff, Int.reduceLE, Int.reduceLT, Int.reduceEq, Int.reduceToNat, Int.reduceAdd, Int.reduceSub, Int.reduceNeg, decide_true, decide_false, Bool.not_true, Bool.not_false, Bool.true_and, Bool.false_and, Bool.and_true, Bool.and_false, Bool.or_true, Bool.true_or, Bool.or_false, Bool.false_or, and_self, and_true, true_and, Nat.le_refl, Nat.zero_add, Nat.mul_one, Nat.one_ne_zero, Nat.zero_le, highP, lowP, Option.map_some, Option.map_none, List.drop_zero, List.take_zero, List.length_cons, List.length_nil, List.nil_append, List.append_nil, List.cons_append, fillP, PV.cells?, PV.one, PV.cleans, PV.clean, PV.of?, List.all_cons, List.all_nil, List.take_succ_cons, List.drop_succ_cons, Bool.and_self, Int.natCast_nonneg, Int.toNat_natCast, Int.toNat_zero, Tk.ren, PV.of?, h1, g, w1, w2, w3, w4, r8, w5, m0, m1, m2, m3, m4, m5, m6, hs, c1, Nat.zero_lt_one, or_true]
theorem head_ready (a b : Int) (cs : List PV) (z n : Nat) (ds : List PV) (N B X W : Int) (l : List UInt8) (R O : Bool) (N' B' X' W' : Int) (l' : List UInt8) (R' O' : Bool) : headS 2 [.int .i64 a, .ep cs 0, .sl .no z n ds, .int .i64 b] [.cells (sndC N l R B X W O), .cells (sndC N' l' R' B' X' W' O')] = ([.int .i64 a, .ep cs 0, .sl .no z n ds, .int .i64 b], [.cells (sndC N l R B X W O), .cells (sndC N' l' R' B' X' W' O')]) := rfl
theorem loop_ready (s x y z : Snd) (hx : x.l = s.l) (P : Int) (m : Nat) (hP : 0 ≤ P) (hm : P + m ≤ s.cnt) (hl : s.l.length ≤ 6000) (k0 : Nat) : ∀ (j i k : Nat), i + j = m → j < k →
    loopL 2 (evL TS k0 q9_1) k [.int .i64 P, .ep (sndC s.N s.l s.R s.B s.X s.W s.O) 0, .sl .no 5 m ((chunks x P m).flatMap Frm.cells), .int .i64 i] [.cells (sndC y.N y.l y.R y.B y.X y.W y.O), .cells (sndC z.N z.l z.R z.B z.X z.W z.O)] =
      some (.ex 0, [.ep (sndC s.N s.l s.R s.B s.X s.W s.O) 0], [.cells (sndC y.N y.l y.R y.B y.X y.W y.O), .cells (sndC z.N z.l z.R z.B z.X z.W z.O)]) := by
  intro j
  induction j with
  | zero =>
    intro i k h1 h2
    obtain ⟨k, rfl⟩ : ∃ k', k = k' + 1 := ⟨k - 1, by omega⟩
    have h3 : ¬ (i : Int) < m := by omega
    rw [loopL_succ, head_ready]
    simp only [q9_1, evL_op, evL_sel, evL_nx, evL_exit, evL_ret, evL_join, evL_block, evL_cond, evK_some, evJ_nx, evJ_rt, evJ_ex, evB_nx, evB_rt, evB_ex, evC2_bool, evS_and, evS_or, evS_tf, evS_ft, ev_t, ev_s, ev_c, evalOp, bin_add, bin_sub, bin_mul, bin_eql, bin_neq, bin_lss, bin_leq, bin_gtr, bin_geq, sbin_eql, sbin_neq, b8, List.map_cons, List.map_nil, PV.rens, PV.ren, if_true, if_false, Bool.false_eq_true, reduceIte, Nat.reduceAdd, Nat.reduceSub, Nat.reduceMul, Nat.reduceEqDiff, Nat.reduceLeDiff, Int.reduceLE, Int.reduceLT, Int.reduceEq, Int.reduceToNat, Int.reduceAdd, Int.reduceSub, Int.reduceNeg, decide_true, decide_false, Bool.not_true, Bool.not_false, Bool.true_and, Bool.false_and, Bool.and_true, Bool.and_false, Bool.or_true, Bool.true_or, Bool.or_false, Bool.false_or, and_self, and_true, true_and, Nat.le_refl, Nat.zero_add, Nat.mul_one, Nat.one_ne_zero, Nat.zero_le, highP, lowP, Option.map_some, Option.map_none, List.drop_zero, List.take_zero, List.length_cons, List.length_nil, List.nil_append, List.append_nil, List.cons_append, fillP, PV.cells?, PV.one, PV.cleans, PV.clean, PV.of?, List.all_cons, List.all_nil, List.take_succ_cons, List.drop_succ_cons, Bool.and_self, Int.natCast_nonneg, Int.toNat_natCast, Int.toNat_zero, h3]
  | succ j ih =>
    intro i k h1 h2
    obtain ⟨k, rfl⟩ : ∃ k', k = k' + 1 := ⟨k - 1, by omega⟩
    rw [loopL_succ, head_ready]
    dsimp only
    rw [body_ready s x hx P m i (by omega) hP hm hl]
    exact ih (i + 1) k (by omega) (by omega)
abbrev sndX (N : Int) (l : List UInt8) (P : Int) : Snd := ⟨N, l, true, P, P, 0, false⟩
theorem topX (N : Int) (l : List UInt8) (P : Int) : (sndX N l P).top = mn (P + 7) (cnt l.length) := rfl
theorem ltX (N : Int) (l : List UInt8) (P : Int) : P < (sndX N l P).top ↔ P < cnt l.length := by
  rw [topX]; unfold mn; split <;> omega
theorem tick_end (N : Int) (l : List UInt8) (P : Int) (h : P = cnt l.length) : (sndX N l P).tick = ⟨N, l, true, P, P, 3, false⟩ ∧ (sndX N l P).out = [helloF (sndX N l P)] := by
  have h1 : ¬ P < (sndX N l P).top := by rw [ltX]; omega
  have h2 : ¬ P < (sndX N l P).cnt := by show ¬ P < cnt l.length; omega
  constructor
  · unfold Snd.tick
    rw [if_neg Bool.false_ne_true, if_neg (fun hh => h1 hh.2), if_neg (Int.lt_irrefl 0), if_neg h2]
  · unfold Snd.out
    rw [if_neg Bool.false_ne_true, if_neg (fun hh => h1 hh.2), if_neg (Int.lt_irrefl 0)]
theorem tick_go (N : Int) (l : List UInt8) (P : Int) (h : P < cnt l.length) : (sndX N l P).tick = ⟨N, l, true, P, mn (P + 7) (cnt l.length), 3, false⟩ ∧ (sndX N l P).out = chunks (sndX N l P) P (mn (P + 7) (cnt l.length) - P).toNat := by
  have h1 : P < (sndX N l P).top := by rw [ltX]; omega
  constructor
  · unfold Snd.tick
    rw [if_neg Bool.false_ne_true, if_pos ⟨rfl, h1⟩]
    rfl
  · unfold Snd.out
    rw [if_neg Bool.false_ne_true, if_pos ⟨rfl, h1⟩]
    rfl
/-- What stands for a sending. -/
def sndOf (p : SndV) : Snd := ⟨p.1, p.2.1, p.2.2.1, p.2.2.2.1, p.2.2.2.2.1, p.2.2.2.2.2.1, p.2.2.2.2.2.2⟩
theorem lawSenderReady (p : SndV) (hp : SndQ p) (n : Int) (hn : (Lit.int .i64 n).wf = true) : evT lt ov 9 [SndM p, .int .i64 n] [] = some (.bool true, []) := by
  have hlr : p.2.1.length ≤ room := hp.2.1.1
  generalize hs : sndOf p = s
  have hM : SndM p = s.pv := by rw [← hs]; rfl
  have hl : s.l.length ≤ room := by rw [← hs]; exact hlr
  rw [hM]
  clear hM hp hlr hs p
  unfold room at hl
  have fin : ∀ {k : Nat} {H : Hp}, evL TS k q9 [s.pv, .int .i64 n] [] = some (.rt, [.bool true], H) → TS 9 [s.pv, .int .i64 n] [] = some (.bool true, []) := fun {k H} h =>
    evT_of (k := k) (F := l9) (H' := H) (e := [.bool true]) (l := [.bool true]) rfl rfl rfl h rfl rfl
  by_cases h1 : (5100 : Int) < s.l.length
  · refine fin (k := 0) (H := []) ?_
    simp only [q9, evL_op, evL_sel, evL_nx, evL_exit, evL_ret, evL_join, evL_block, evL_cond, evK_some, evJ_nx, evJ_rt, evJ_ex, evB_nx, evB_rt, evB_ex, evC2_bool, evS_and, evS_or, evS_tf, evS_ft, ev_t, ev_s, ev_c, evalOp, bin_add, bin_sub, bin_mul, bin_eql, bin_neq, bin_lss, bin_leq, bin_gtr, bin_geq, sbin_eql, sbin_neq, b8, List.map_cons, List.map_nil, PV.rens, PV.ren, if_true, if_false, Bool.false_eq_true, reduceIte, Nat.reduceAdd, Nat.reduceSub, Nat.reduceMul, Nat.reduceEqDiff, Nat.reduceLeDiff, Int.reduceLE, Int.reduceLT, Int.reduceEq, Int.reduceToNat, Int.reduceAdd, Int.reduceSub, Int.reduceNeg, decide_true, decide_false, Bool.not_true, Bool.not_false, Bool.true_and, Bool.false_and, Bool.and_true, Bool.and_false, Bool.or_true, Bool.true_or, Bool.or_false, Bool.false_or, and_self, and_true, true_and, Nat.le_refl, Nat.zero_add, Nat.mul_one, Nat.one_ne_zero, Nat.zero_le, highP, lowP, Option.map_some, Option.map_none, List.drop_zero, List.take_zero, List.length_cons, List.length_nil, List.nil_append, List.append_nil, List.cons_append, fillP, PV.cells?, PV.one, PV.cleans, PV.clean, PV.of?, List.all_cons, List.all_nil, List.take_succ_cons, List.drop_succ_cons, Bool.and_self, Int.natCast_nonneg, Int.toNat_natCast, Int.toNat_zero, Tk.ren, PV.of?, h1]
  have c1 : TS 10 [sndP s.N s.l s.R s.B s.X s.W s.O] [] = _ := T_refSend s (by omega)
  by_cases h2 : s.ok
  case neg =>
    rw [decide_eq_false h2] at c1
    refine fin (k := 0) (H := []) ?_
    simp only [q9, evL_op, evL_sel, evL_nx, evL_exit, evL_ret, evL_join, evL_block, evL_cond, evK_some, evJ_nx, evJ_rt, evJ_ex, evB_nx, evB_rt, evB_ex, evC2_bool, evS_and, evS_or, evS_tf, evS_ft, ev_t, ev_s, ev_c, evalOp, bin_add, bin_sub, bin_mul, bin_eql, bin_neq, bin_lss, bin_leq, bin_gtr, bin_geq, sbin_eql, sbin_neq, b8, List.map_cons, List.map_nil, PV.rens, PV.ren, if_true, if_false, Bool.false_eq_true, reduceIte, Nat.reduceAdd, Nat.reduceSub, Nat.reduceMul, Nat.reduceEqDiff, Nat.reduceLeDiff, Int.reduceLE, Int.reduceLT, Int.reduceEq, Int.reduceToNat, Int.reduceAdd, Int.reduceSub, Int.reduceNeg, decide_true, decide_false, Bool.not_true, Bool.not_false, Bool.true_and, Bool.false_and, Bool.and_true, Bool.and_false, Bool.or_true, Bool.true_or, Bool.or_false, Bool.false_or, and_self, and_true, true_and, Nat.le_refl, Nat.zero_add, Nat.mul_one, Nat.one_ne_zero, Nat.zero_le, highP, lowP, Option.map_some, Option.map_none, List.drop_zero, List.take_zero, List.length_cons, List.length_nil, List.nil_append, List.append_nil, List.cons_append, fillP, PV.cells?, PV.one, PV.cleans, PV.clean, PV.of?, List.all_cons, List.all_nil, List.take_succ_cons, List.drop_succ_cons, Bool.and_self, Int.natCast_nonneg, Int.toNat_natCast, Int.toNat_zero, Tk.ren, PV.of?, h1, c1]
  rw [decide_eq_true h2] at c1
  by_cases h3 : s.O = true
  · rw [h3] at c1
    refine fin (k := 0) (H := []) ?_
    simp only [q9, evL_op, evL_sel, evL_nx, evL_exit, evL_ret, evL_join, evL_block, evL_cond, evK_some, evJ_nx, evJ_rt, evJ_ex, evB_nx, evB_rt, evB_ex, evC2_bool, evS_and, evS_or, evS_tf, evS_ft, ev_t, ev_s, ev_c, evalOp, bin_add, bin_sub, bin_mul, bin_eql, bin_neq, bin_lss, bin_leq, bin_gtr, bin_geq, sbin_eql, sbin_neq, b8, List.map_cons, List.map_nil, PV.rens, PV.ren, if_true, if_false, Bool.false_eq_true, reduceIte, Nat.reduceAdd, Nat.reduceSub, Nat.reduceMul, Nat.reduceEqDiff, Nat.reduceLeDiff, Int.reduceLE, Int.reduceLT, Int.reduceEq, Int.reduceToNat, Int.reduceAdd, Int.reduceSub, Int.reduceNeg, decide_true, decide_false, Bool.not_true, Bool.not_false, Bool.true_and, Bool.false_and, Bool.and_true, Bool.and_false, Bool.or_true, Bool.true_or, Bool.or_false, Bool.false_or, and_self, and_true, true_and, Nat.le_refl, Nat.zero_add, Nat.mul_one, Nat.one_ne_zero, Nat.zero_le, highP, lowP, Option.map_some, Option.map_none, List.drop_zero, List.take_zero, List.length_cons, List.length_nil, List.nil_append, List.append_nil, List.cons_append, fillP, PV.cells?, PV.one, PV.cleans, PV.clean, PV.of?, List.all_cons, List.all_nil, List.take_succ_cons, List.drop_succ_cons, Bool.and_self, Int.natCast_nonneg, Int.toNat_natCast, Int.toNat_zero, Tk.ren, PV.of?, h1, c1, h3]
  have hO : s.O = false := by simpa using h3
  have hL : (1 : Int) ≤ s.l.length ∧ (s.l.length : Int) ≤ 5000 := h2.2.1
  obtain ⟨hc1, hc2, hc3⟩ := cntK h2
  have c2 : TS 19 [sndP s.N s.l s.R s.B s.X s.W s.O] [] = _ := T_Pieces s h2
  have u1 := u64_pos n
  generalize hP : (IntKind.u64.wrap n).tmod (s.cnt + 1) = P
  rw [Int.tmod_eq_emod_of_nonneg u1.1] at hP
  have hP0 : 0 ≤ P := by rw [← hP]; exact Int.emod_nonneg _ (by omega)
  have hP1 : P ≤ s.cnt := by have := Int.emod_lt_of_pos (IntKind.u64.wrap n) (show 0 < s.cnt + 1 by omega); omega
  have ha : ∃ A, mn (P * 48) s.l.length = A ∧ 0 ≤ A ∧ A ≤ s.l.length ∧ cnt A = P ∧ (A < s.l.length → A.tmod 48 = 0) := by
    refine ⟨_, rfl, ?_, ?_, ?_, ?_⟩
    · unfold mn; split <;> omega
    · unfold mn; split <;> omega
    · unfold mn cnt; unfold Snd.cnt cnt at hP1; split <;> omega
    · intro hh
      unfold mn at hh ⊢
      split
      · rename_i hq; rw [if_pos hq] at hh; omega
      · rw [Int.tmod_eq_emod_of_nonneg (by omega)]; omega
  obtain ⟨A, hA, hA0, hA1, hA2, hA3⟩ := ha
  have hx : s.hear 2 s.N A 0 0 = .ok ⟨s.N, s.l, true, P, P, 0, false⟩ := by
    have hN := h2.1
    unfold Snd.hear
    rw [if_neg (fun hn => hn (by unfold RF; omega)), if_neg (fun hn => hn.elim (fun e => e rfl) (fun e => by rw [hO] at e; cases e)), if_pos rfl, if_pos ⟨hA1, hA3⟩]
    unfold Snd.ready
    rw [hA2, hO]
  have c3 : TS 16 [sndP s.N s.l s.R s.B s.X s.W s.O, .agg [.int .i64 2, .int .i64 s.N, .int .i64 A, .int .i64 0, .sl .nil 0 0 []]] [] = some (.tup (hearPV (s.hear 2 s.N A 0 0)), []) := T_Hear s h2 2 s.N A 0 nilB
  rw [hx] at c3
  have hxo : (sndX s.N s.l P).ok := ⟨h2.1, h2.2.1, ⟨Int.le_refl 0, (by decide : (0 : Int) ≤ 3)⟩, .inl rfl, ⟨hP0, hP1⟩, Int.le_refl P, le_mn.2 ⟨(by omega : P ≤ P + 7), hP1⟩⟩
  have c4 : TS 11 [sndP s.N s.l true P P 0 false] [] = _ := T_Tick (sndX s.N s.l P) hxo
  have u2 := u1.2
  have u3 : IntKind.i64.wrap (s.cnt + 1) = s.cnt + 1 := wr (by omega) (by omega)
  have u4 : IntKind.u64.wrap (s.cnt + 1) = s.cnt + 1 := IntWalk.u64_in _ (by omega)
  have u5 : binP .rem (.int .u64 (IntKind.u64.wrap n)) (.int .u64 (s.cnt + 1)) = some (.int .u64 P) := by rw [bin_rem (by omega), Int.tmod_eq_emod_of_nonneg u1.1, hP]
  have u6 : IntKind.i64.wrap P = P := wr (by omega) (by omega)
  have u7 : IntKind.i64.wrap (P * 48) = P * 48 := wr (by omega) (by omega)
  have m1 : (if (s.l.length : Int) < P * 48 then (s.l.length : Int) else P * 48) = A := hA
  have hc1' : ¬ s.cnt < 1 := by omega
  rw [hO] at c1 c2 c3
  by_cases h5 : P = s.cnt
  · rw [(tick_end s.N s.l P h5).1, (tick_end s.N s.l P h5).2] at c4
    simp only [hearPV] at c3
    refine fin (k := 0) (H := [.cells (sndC s.N s.l true P P 0 false), .cells (sndC s.N s.l true P P 3 false)]) ?_
    have o1 : ((1 : Nat) : Int) = 1 := rfl
    simp only [q9, evL_op, evL_sel, evL_nx, evL_exit, evL_ret, evL_join, evL_block, evL_cond, evK_some, evJ_nx, evJ_rt, evJ_ex, evB_nx, evB_rt, evB_ex, evC2_bool, evS_and, evS_or, evS_tf, evS_ft, ev_t, ev_s, ev_c, evalOp, bin_add, bin_sub, bin_mul, bin_eql, bin_neq, bin_lss, bin_leq, bin_gtr, bin_geq, sbin_eql, sbin_neq, b8, List.map_cons, List.map_nil, PV.rens, PV.ren, if_true, if_false, Bool.false_eq_true, reduceIte, Nat.reduceAdd, Nat.reduceSub, Nat.reduceMul, Nat.reduceEqDiff, Nat.reduceLeDiff, Int.reduceLE, Int.reduceLT, Int.reduceEq, Int.reduceToNat, Int.reduceAdd, Int.reduceSub, Int.reduceNeg, decide_true, decide_false, Bool.not_true, Bool.not_false, Bool.true_and, Bool.false_and, Bool.and_true, Bool.and_false, Bool.or_true, Bool.true_or, Bool.or_false, Bool.false_or, and_self, and_true, true_and, Nat.le_refl, Nat.zero_add, Nat.mul_one, Nat.one_ne_zero, Nat.zero_le, highP, lowP, Option.map_some, Option.map_none, List.drop_zero, List.take_zero, List.length_cons, List.length_nil, List.nil_append, List.append_nil, List.cons_append, fillP, PV.cells?, PV.one, PV.cleans, PV.clean, PV.of?, List.all_cons, List.all_nil, List.take_succ_cons, List.drop_succ_cons, Bool.and_self, Int.natCast_nonneg, Int.toNat_natCast, Int.toNat_zero, Tk.ren, PV.of?, h1, c1, c2, hO, u3, u4, u5, u6, u7, m1, c3, c4, evL_loop, List.getElem?_cons_zero, List.getElem?_cons_succ, List.set_cons_zero, List.set_cons_succ, hc1', decide_eq_true h5, outPV, helloF, Frm.cells, List.flatMap_cons, List.flatMap_nil, dpv, T_wakes, o1]
  · have h6 : P < cnt s.l.length := by show P < s.cnt; omega
    obtain ⟨m, hm⟩ : ∃ m : Nat, (m : Int) = mn (P + 7) s.cnt - P := ⟨(mn (P + 7) s.cnt - P).toNat, by unfold mn; split <;> omega⟩
    have hm0 : 0 < m ∧ P + m ≤ s.cnt ∧ m ≤ 7 := by unfold mn at hm; split at hm <;> omega
    have e3 : (mn (P + 7) (cnt s.l.length) - P).toNat = m := by show (mn (P + 7) s.cnt - P).toNat = m; omega
    have e4 : mn (P + 7) (cnt s.l.length) = P + m := by show mn (P + 7) s.cnt = P + m; omega
    rw [(tick_go s.N s.l P h6).1, (tick_go s.N s.l P h6).2, e3, e4, outPV_chunks _ _ _ hm0.1] at c4
    simp only [hearPV] at c3
    have u8 : IntKind.i64.wrap (s.cnt - P) = s.cnt - P := wr (by omega) (by omega)
    have u9 : IntKind.i64.wrap (P + m) = P + m := wr (by omega) (by omega)
    have m2 : (if s.cnt - P < 7 then s.cnt - P else 7) = (m : Int) := by rw [hm]; unfold mn; split <;> split <;> omega
    have lp := loop_ready s (sndX s.N s.l P) (sndX s.N s.l P) ⟨s.N, s.l, true, P, P + m, 3, false⟩ rfl P m hP0 hm0.2.1 (by omega) (m + 1) m 0 (m + 1) (by omega) (by omega)
    have lp' : loopL 2 (evL TS (m + 1) q9_1) (m + 1) [.int .i64 P, .ep (sndC s.N s.l s.R s.B s.X s.W s.O) 0, .sl .no 5 m ((chunks (sndX s.N s.l P) P m).flatMap Frm.cells), .int .i64 0] [.cells (sndC s.N s.l true P P 0 false), .cells (sndC s.N s.l true P (P + m) 3 false)] =
      some (.ex 0, [.ep (sndC s.N s.l s.R s.B s.X s.W s.O) 0], [.cells (sndC s.N s.l true P P 0 false), .cells (sndC s.N s.l true P (P + m) 3 false)]) := lp
    rw [hO] at lp'
    have w1 : IntKind.i64.wrap ((s.l.length : Int) + 1) = s.l.length + 1 := wr (by omega) (by omega)
    have c5 : TS 16 [sndP s.N s.l s.R s.B s.X s.W s.O, .agg [.int .i64 2, .int .i64 s.N, .int .i64 (s.l.length + 1), .int .i64 0, .sl .nil 0 0 []]] [] = some (.tup (hearPV (s.hear 2 s.N (s.l.length + 1) 0 0)), []) := T_Hear s h2 2 s.N (s.l.length + 1) 0 nilB
    rw [hO] at c5
    refine fin (k := m + 1) (H := [.cells (sndC s.N s.l true P P 0 false), .cells (sndC s.N s.l true P (P + m) 3 false), .cells zeroC]) ?_
    by_cases h7 : RF 2 s.N (s.l.length + 1) 0 0
    · have e5 : s.hear 2 s.N (s.l.length + 1) 0 0 = .error 11 := by
        unfold Snd.hear
        rw [if_neg (fun hn => hn h7), if_neg (fun hn => hn.elim (fun e => e rfl) (fun e => by rw [hO] at e; cases e)), if_pos rfl, if_neg (fun hh => by have := hh.1; omega)]
      rw [e5] at c5
      simp only [hearPV] at c5
      simp only [q9, evL_op, evL_sel, evL_nx, evL_exit, evL_ret, evL_join, evL_block, evL_cond, evK_some, evJ_nx, evJ_rt, evJ_ex, evB_nx, evB_rt, evB_ex, evC2_bool, evS_and, evS_or, evS_tf, evS_ft, ev_t, ev_s, ev_c, evalOp, bin_add, bin_sub, bin_mul, bin_eql, bin_neq, bin_lss, bin_leq, bin_gtr, bin_geq, sbin_eql, sbin_neq, b8, List.map_cons, List.map_nil, PV.rens, PV.ren, if_true, if_false, Bool.false_eq_true, reduceIte, Nat.reduceAdd, Nat.reduceSub, Nat.reduceMul, Nat.reduceEqDiff, Nat.reduceLeDiff, Int.reduceLE, Int.reduceLT, Int.reduceEq, Int.reduceToNat, Int.reduceAdd, Int.reduceSub, Int.reduceNeg, decide_true, decide_false, Bool.not_true, Bool.not_false, Bool.true_and, Bool.false_and, Bool.and_true, Bool.and_false, Bool.or_true, Bool.true_or, Bool.or_false, Bool.false_or, and_self, and_true, true_and, Nat.le_refl, Nat.zero_add, Nat.mul_one, Nat.one_ne_zero, Nat.zero_le, highP, lowP, Option.map_some, Option.map_none, List.drop_zero, List.take_zero, List.length_cons, List.length_nil, List.nil_append, List.append_nil, List.cons_append, fillP, PV.cells?, PV.one, PV.cleans, PV.clean, PV.of?, List.all_cons, List.all_nil, List.take_succ_cons, List.drop_succ_cons, Bool.and_self, Int.natCast_nonneg, Int.toNat_natCast, Int.toNat_zero, Tk.ren, PV.of?, h1, c1, c2, hO, u3, u4, u5, u6, u7, m1, c3, c4, evL_loop, List.getElem?_cons_zero, List.getElem?_cons_succ, List.set_cons_zero, List.set_cons_succ, hc1', decide_eq_false h5, u8, u9, m2]
      rw [lp']
      simp only [q9_2, evL_op, evL_sel, evL_nx, evL_exit, evL_ret, evL_join, evL_block, evL_cond, evK_some, evJ_nx, evJ_rt, evJ_ex, evB_nx, evB_rt, evB_ex, evC2_bool, evS_and, evS_or, evS_tf, evS_ft, ev_t, ev_s, ev_c, evalOp, bin_add, bin_sub, bin_mul, bin_eql, bin_neq, bin_lss, bin_leq, bin_gtr, bin_geq, sbin_eql, sbin_neq, b8, List.map_cons, List.map_nil, PV.rens, PV.ren, if_true, if_false, Bool.false_eq_true, reduceIte, Nat.reduceAdd, Nat.reduceSub, Nat.reduceMul, Nat.reduceEqDiff, Nat.reduceLeDiff, Int.reduceLE, Int.reduceLT, Int.reduceEq, Int.reduceToNat, Int.reduceAdd, Int.reduceSub, Int.reduceNeg, decide_true, decide_false, Bool.not_true, Bool.not_false, Bool.true_and, Bool.false_and, Bool.and_true, Bool.and_false, Bool.or_true, Bool.true_or, Bool.or_false, Bool.false_or, and_self, and_true, true_and, Nat.le_refl, Nat.zero_add, Nat.mul_one, Nat.one_ne_zero, Nat.zero_le, highP, lowP, Option.map_some, Option.map_none, List.drop_zero, List.take_zero, List.length_cons, List.length_nil, List.nil_append, List.append_nil, List.cons_append, fillP, PV.cells?, PV.one, PV.cleans, PV.clean, PV.of?, List.all_cons, List.all_nil, List.take_succ_cons, List.drop_succ_cons, Bool.and_self, Int.natCast_nonneg, Int.toNat_natCast, Int.toNat_zero, Tk.ren, PV.of?, hO, c5, T_wakes, Snd.zero, w1, List.getElem?_cons_zero, List.getElem?_cons_succ, List.set_cons_zero, List.set_cons_succ]
    · have e5 : s.hear 2 s.N (s.l.length + 1) 0 0 = .error 1 := by
        unfold Snd.hear
        rw [if_pos h7]
      rw [e5] at c5
      simp only [hearPV] at c5
      simp only [q9, evL_op, evL_sel, evL_nx, evL_exit, evL_ret, evL_join, evL_block, evL_cond, evK_some, evJ_nx, evJ_rt, evJ_ex, evB_nx, evB_rt, evB_ex, evC2_bool, evS_and, evS_or, evS_tf, evS_ft, ev_t, ev_s, ev_c, evalOp, bin_add, bin_sub, bin_mul, bin_eql, bin_neq, bin_lss, bin_leq, bin_gtr, bin_geq, sbin_eql, sbin_neq, b8, List.map_cons, List.map_nil, PV.rens, PV.ren, if_true, if_false, Bool.false_eq_true, reduceIte, Nat.reduceAdd, Nat.reduceSub, Nat.reduceMul, Nat.reduceEqDiff, Nat.reduceLeDiff, Int.reduceLE, Int.reduceLT, Int.reduceEq, Int.reduceToNat, Int.reduceAdd, Int.reduceSub, Int.reduceNeg, decide_true, decide_false, Bool.not_true, Bool.not_false, Bool.true_and, Bool.false_and, Bool.and_true, Bool.and_false, Bool.or_true, Bool.true_or, Bool.or_false, Bool.false_or, and_self, and_true, true_and, Nat.le_refl, Nat.zero_add, Nat.mul_one, Nat.one_ne_zero, Nat.zero_le, highP, lowP, Option.map_some, Option.map_none, List.drop_zero, List.take_zero, List.length_cons, List.length_nil, List.nil_append, List.append_nil, List.cons_append, fillP, PV.cells?, PV.one, PV.cleans, PV.clean, PV.of?, List.all_cons, List.all_nil, List.take_succ_cons, List.drop_succ_cons, Bool.and_self, Int.natCast_nonneg, Int.toNat_natCast, Int.toNat_zero, Tk.ren, PV.of?, h1, c1, c2, hO, u3, u4, u5, u6, u7, m1, c3, c4, evL_loop, List.getElem?_cons_zero, List.getElem?_cons_succ, List.set_cons_zero, List.set_cons_succ, hc1', decide_eq_false h5, u8, u9, m2]
      rw [lp']
      simp only [q9_2, evL_op, evL_sel, evL_nx, evL_exit, evL_ret, evL_join, evL_block, evL_cond, evK_some, evJ_nx, evJ_rt, evJ_ex, evB_nx, evB_rt, evB_ex, evC2_bool, evS_and, evS_or, evS_tf, evS_ft, ev_t, ev_s, ev_c, evalOp, bin_add, bin_sub, bin_mul, bin_eql, bin_neq, bin_lss, bin_leq, bin_gtr, bin_geq, sbin_eql, sbin_neq, b8, List.map_cons, List.map_nil, PV.rens, PV.ren, if_true, if_false, Bool.false_eq_true, reduceIte, Nat.reduceAdd, Nat.reduceSub, Nat.reduceMul, Nat.reduceEqDiff, Nat.reduceLeDiff, Int.reduceLE, Int.reduceLT, Int.reduceEq, Int.reduceToNat, Int.reduceAdd, Int.reduceSub, Int.reduceNeg, decide_true, decide_false, Bool.not_true, Bool.not_false, Bool.true_and, Bool.false_and, Bool.and_true, Bool.and_false, Bool.or_true, Bool.true_or, Bool.or_false, Bool.false_or, and_self, and_true, true_and, Nat.le_refl, Nat.zero_add, Nat.mul_one, Nat.one_ne_zero, Nat.zero_le, highP, lowP, Option.map_some, Option.map_none, List.drop_zero, List.take_zero, List.length_cons, List.length_nil, List.nil_append, List.append_nil, List.cons_append, fillP, PV.cells?, PV.one, PV.cleans, PV.clean, PV.of?, List.all_cons, List.all_nil, List.take_succ_cons, List.drop_succ_cons, Bool.and_self, Int.natCast_nonneg, Int.toNat_natCast, Int.toNat_zero, Tk.ren, PV.of?, hO, c5, T_wakes, Snd.zero, w1, List.getElem?_cons_zero, List.getElem?_cons_succ, List.set_cons_zero, List.set_cons_succ]
end Go.Proofs.Ytlbajfhioebphaa.Tab
