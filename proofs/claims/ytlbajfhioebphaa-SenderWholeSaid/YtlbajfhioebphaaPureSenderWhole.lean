/- SenderWhole: it is true. -/
import Derived.Test.YtlbajfhioebphaaSenderI
namespace Go.Proofs.Ytlbajfhioebphaa.Tab
set_option linter.all false
open Go Go.RowKit Go.Proofs.Ytlbajfhioebphaa.Ev
abbrev cellsW (s : Snd) : Ob := .cells (sndC s.N s.l s.R s.B s.X s.W s.O)
abbrev got8 (k : Nat) (g : List UInt8) : PV := .sl (.tok k) 1 g.length (g.map b8)
/-- The first so many pieces' bytes. -/
def upto (l : List UInt8) (a : Int) : List UInt8 := l.take (a * 48).toNat
theorem upto_len {l : List UInt8} {a : Int} (h0 : 0 ≤ a) : ((upto l a).length : Int) = mn (a * 48) l.length := by
  unfold upto mn
  rw [List.length_take]
  split <;> omega
theorem upto_next {N : Int} {l : List UInt8} {a : Int} {R : Bool} {B X W : Int} {O : Bool} (h0 : 0 ≤ a) (h1 : a < cnt l.length) : upto l a ++ (chunkF ⟨N, l, R, B, X, W, O⟩ a).d = upto l (a + 1) := by
  have h3 : a * 48 < l.length := by unfold cnt at h1; omega
  unfold upto chunkF
  dsimp only
  have e : (mn (a * 48 + 48) (l.length : Int)).toNat = min ((a + 1) * 48).toNat l.length := by unfold mn; split <;> omega
  have e2 : (a * 48).toNat ≤ min ((a + 1) * 48).toNat l.length := by omega
  rw [e]
  have e3 : l.take (min ((a + 1) * 48).toNat l.length) = l.take ((a + 1) * 48).toNat := by
    by_cases h : ((a + 1) * 48).toNat ≤ l.length
    · rw [Nat.min_eq_left h]
    · rw [Nat.min_eq_right (by omega), List.take_of_length_le (Nat.le_refl _), List.take_of_length_le (by omega)]
  rw [e3]
  have e4 : l.take (a * 48).toNat = (l.take ((a + 1) * 48).toNat).take (a * 48).toNat := by rw [List.take_take, Nat.min_eq_left (by omega)]
  rw [e4, List.take_append_drop]
theorem headW0 (a b c d : Int) (l : List PV) (n z g : Nat) (gs : List PV) (N B X W : Int) (sl : List UInt8) (R O : Bool) : headS 2 [.int .i64 a, .sl .no 1 n l, .ptr 0 0, .int .i64 b, .int .i64 c, .sl (.tok 1) z g gs, .int .i64 d] [.cells (sndC N sl R B X W O), .tok] = ([.int .i64 a, .sl .no 1 n l, .ptr 0 0, .int .i64 b, .int .i64 c, .sl (.tok 2) z g gs, .int .i64 d], [.cells (sndC N sl R B X W O), .dead, .tok]) := by kernel_rfl
theorem headW1 (a b c d : Int) (l : List PV) (n z g : Nat) (gs : List PV) (N B X W N' B' X' W' : Int) (sl sl' : List UInt8) (R O R' O' : Bool) : headS 2 [.int .i64 a, .sl .no 1 n l, .ptr 0 0, .int .i64 b, .int .i64 c, .sl (.tok 5) z g gs, .int .i64 d] [.cells (sndC N sl R B X W O), .dead, .dead, .cells (sndC N' sl' R' B' X' W' O'), .dead, .tok] = ([.int .i64 a, .sl .no 1 n l, .ptr 0 0, .int .i64 b, .int .i64 c, .sl (.tok 2) z g gs, .int .i64 d], [.cells (sndC N sl R B X W O), .dead, .tok]) := by kernel_rfl
theorem headF0 (a b c d e : Int) (l : List PV) (n z g z' g' : Nat) (gs gs' : List PV) (N B X W N' B' X' W' : Int) (sl sl' : List UInt8) (R O R' O' : Bool) : headS 4 [.int .i64 a, .sl .no 1 n l, .ptr 0 0, .int .i64 b, .int .i64 c, .sl (.tok 2) z g gs, .int .i64 d, .sl .no z' g' gs', .int .i64 e] [.cells (sndC N sl R B X W O), .dead, .tok, .cells (sndC N' sl' R' B' X' W' O')] =
    ([.int .i64 a, .sl .no 1 n l, .ptr 0 0, .int .i64 b, .int .i64 c, .sl (.tok 4) z g gs, .int .i64 d, .sl .no z' g' gs', .int .i64 e], [.cells (sndC N sl R B X W O), .dead, .dead, .cells (sndC N' sl' R' B' X' W' O'), .tok]) := by kernel_rfl
theorem headF1 (a b c d e : Int) (l : List PV) (n z g z' g' : Nat) (gs gs' : List PV) (N B X W N' B' X' W' : Int) (sl sl' : List UInt8) (R O R' O' : Bool) (f1 f2 f3 f4 : Int) (N2 B2 X2 W2 : Int) (sl2 : List UInt8) (R2 O2 : Bool) : headS 4 [.int .i64 a, .sl .no 1 n l, .ptr 0 0, .int .i64 b, .int .i64 c, .sl (.tok 6) z g gs, .int .i64 d, .sl .no z' g' gs', .int .i64 e] [.cells (sndC N sl R B X W O), .dead, .dead, .cells (sndC N' sl' R' B' X' W' O'), .dead, .cells [.int .i64 f1, .int .i64 f2, .int .i64 f3, .int .i64 f4, .sl .nil 0 0 []], .tok, .cells (sndC N2 sl2 R2 B2 X2 W2 O2)] =
    ([.int .i64 a, .sl .no 1 n l, .ptr 0 0, .int .i64 b, .int .i64 c, .sl (.tok 4) z g gs, .int .i64 d, .sl .no z' g' gs', .int .i64 e], [.cells (sndC N sl R B X W O), .dead, .dead, .cells (sndC N' sl' R' B' X' W' O'), .tok]) := by kernel_rfl
theorem headF2 (a b c d e : Int) (l : List PV) (n z g z' g' : Nat) (gs gs' : List PV) (N B X W N' B' X' W' : Int) (sl sl' : List UInt8) (R O R' O' : Bool) (f1 f2 f3 f4 : Int) (N2 B2 X2 W2 : Int) (sl2 : List UInt8) (R2 O2 : Bool) : headS 4 [.int .i64 a, .sl .no 1 n l, .ptr 0 0, .int .i64 b, .int .i64 c, .sl (.tok 4) z g gs, .int .i64 d, .sl .no z' g' gs', .int .i64 e] [.cells (sndC N sl R B X W O), .dead, .dead, .cells (sndC N' sl' R' B' X' W' O'), .tok, .cells [.int .i64 f1, .int .i64 f2, .int .i64 f3, .int .i64 f4, .sl .nil 0 0 []], .cells (sndC N2 sl2 R2 B2 X2 W2 O2)] =
    ([.int .i64 a, .sl .no 1 n l, .ptr 0 0, .int .i64 b, .int .i64 c, .sl (.tok 4) z g gs, .int .i64 d, .sl .no z' g' gs', .int .i64 e], [.cells (sndC N sl R B X W O), .dead, .dead, .cells (sndC N' sl' R' B' X' W' O'), .tok]) := by kernel_rfl
/-- A sending that goes on from piece a, all sent up to piece x. -/
abbrev goS (N : Int) (l : List UInt8) (a x w : Int) : Snd := ⟨N, l, true, a, x, w, false⟩
theorem hear_ack {N : Int} {l : List UInt8} {a x w : Int} (hN : 1 ≤ N ∧ N ≤ 65535) (h : a < x) (h0 : 0 ≤ a) : (goS N l a x w).hear 4 N 0 ((a + 1).tmod 8) 0 = .ok (goS N l (a + 1) x 3) := by
  have hm : 0 ≤ (a + 1).tmod 8 ∧ (a + 1).tmod 8 ≤ 7 := by rw [Int.tmod_eq_emod_of_nonneg (by omega)]; omega
  have hrf : RF 4 N 0 ((a + 1).tmod 8) 0 := by
    unfold RF
    exact ⟨hN, .inr (.inr (.inl ⟨rfl, rfl, hm.1, hm.2, rfl⟩))⟩
  unfold Snd.hear
  rw [if_neg (fun hn => hn hrf), if_neg (fun hn => hn.elim (fun e => e rfl) (fun e => by cases e)), if_neg (by decide), if_pos rfl]
  obtain ⟨j, hj⟩ : ∃ j, (x - a).toNat = j + 1 := ⟨(x - a).toNat - 1, by omega⟩
  have : (goS N l a x w).ackTo ((a + 1).tmod 8) = some (a + 1) := by
    unfold Snd.ackTo
    rw [if_pos rfl]
    show ackAt _ (x - a).toNat (a + 1) = _
    rw [hj]
    unfold ackAt
    rw [if_pos rfl]
  rw [this]
  rfl
theorem goS_ok {N : Int} {l : List UInt8} {a x w : Int} (hN : 1 ≤ N ∧ N ≤ 65535) (hl : 1 ≤ l.length ∧ l.length ≤ 2000) (h0 : 0 ≤ a) (h1 : a ≤ x) (h2 : x ≤ a + 7) (h3 : x ≤ cnt l.length) (hw : 0 ≤ w ∧ w ≤ 3) : (goS N l a x w).ok :=
  ⟨hN, by show (1 : Int) ≤ l.length ∧ (l.length : Int) ≤ 5000; omega, hw, .inl rfl, ⟨h0, by show a ≤ cnt l.length; omega⟩, h1, le_mn.2 ⟨h2, h3⟩⟩
abbrev ackC (N q : Int) : Ob := .cells [.int .i64 4, .int .i64 N, .int .i64 0, .int .i64 q, .sl .nil 0 0 []]
theorem body_fr (N : Int) (l : List UInt8) (hN : 1 ≤ N ∧ N ≤ 65535) (hl : 1 ≤ l.length ∧ l.length ≤ 2000) (a : Int) (h0 : 0 ≤ a) (m k : Nat) (hk : k < m) (hm : a + m ≤ cnt l.length) (hm7 : m ≤ 7) (n i w : Int) (hw : 0 ≤ w ∧ w ≤ 3) (x : Snd) (y : Snd) (hy : y.N = N) (hyl : y.l = l) (k0 : Nat) :
    evL TS k0 q6_2 [.int .i64 N, sl8 l, .ptr 0 0, .int .i64 n, .int .i64 (a + k), got8 4 (upto l (a + k)), .int .i64 i, .sl .no 5 m ((chunks y a m).flatMap Frm.cells), .int .i64 k] [cellsW (goS N l (a + k) (a + m) w), .dead, .dead, cellsW x, .tok] =
      some (.nx, [.int .i64 N, sl8 l, .ptr 0 0, .int .i64 n, .int .i64 (a + (k + 1 : Nat)), got8 6 (upto l (a + (k + 1 : Nat))), .int .i64 i, .sl .no 5 m ((chunks y a m).flatMap Frm.cells), .int .i64 (k + 1 : Nat)],
        [cellsW (goS N l (a + (k + 1 : Nat)) (a + m) 3), .dead, .dead, cellsW x, .dead, ackC N ((a + (k + 1 : Nat)).tmod 8), .tok, cellsW (goS N l (a + (k + 1 : Nat)) (a + m) 3)]) := by
  have hc : cnt l.length ≤ 200 := by unfold cnt; omega
  have h1 : (k : Int) < m := by omega
  have w1 : IntKind.i64.wrap ((k : Int) + 1) = ((k + 1 : Nat) : Int) := wr (by omega) (by omega)
  have ek : a + ((k + 1 : Nat) : Int) = a + k + 1 := by omega
  have w2 : IntKind.i64.wrap (a + ((k + 1 : Nat) : Int)) = a + ((k + 1 : Nat) : Int) := wr (by omega) (by omega)
  have h3 : (a + k) * 48 < l.length := by unfold cnt at hm; omega
  have hyc : y.cnt = cnt l.length := by unfold Snd.cnt; rw [hyl]
  have g := get_chunk y a m k hk
  have hd := chunk_dpv (s := y) (i := a + k) (by omega) (by omega) (by rw [hyl]; omega)
  have hp := chunk_len (s := y) (i := a + k) (by omega) (by omega) (by rw [hyl]; omega)
  have hb : (chunkF y (a + k)).cells = [.int .i64 3, .int .i64 N, .int .i64 ((a + k) * 48), .int .i64 ((a + k).tmod 8), sl8 (chunkF y (a + k)).d] := by
    unfold Frm.cells; rw [hd, ← hy]; rfl
  rw [hb] at g
  have hg : ((upto l (a + k)).length : Int) = (a + k) * 48 := by rw [upto_len (by omega)]; unfold mn; rw [if_neg (by omega)]
  have hu : upto l (a + k) ++ (chunkF y (a + k)).d = upto l (a + ((k + 1 : Nat) : Int)) := by
    obtain ⟨yN, yl, yR, yB, yX, yW, yO⟩ := y
    dsimp only at hy hyl
    subst hy hyl
    rw [upto_next (by omega) (by omega), ek]
  have hu2 : (upto l (a + k)).length + (chunkF y (a + k)).d.length = (upto l (a + ((k + 1 : Nat) : Int))).length := by rw [← hu, List.length_append]
  have hu3 : (upto l (a + k)).map b8 ++ (chunkF y (a + k)).d.map b8 = (upto l (a + ((k + 1 : Nat) : Int))).map b8 := by rw [← hu, List.map_append]
  have hr : (upto l (a + ((k + 1 : Nat) : Int))).length ≤ roomMax := by
    unfold upto roomMax; rw [List.length_take]; omega
  have c7 : TS 16 [sndP N l true (a + k) (a + m) w false, .agg [.int .i64 4, .int .i64 N, .int .i64 0, .int .i64 ((a + k + 1).tmod 8), .sl .nil 0 0 []]] [] = some (.tup (hearPV ((goS N l (a + k) (a + m) w).hear 4 N 0 ((a + k + 1).tmod 8) 0)), []) := T_Hear (goS N l (a + k) (a + m) w) (goS_ok hN hl (by omega) (by omega) (by omega) hm hw) 4 N 0 ((a + k + 1).tmod 8) nilB
  rw [hear_ack hN (by omega) (by omega)] at c7
  simp only [hearPV, ← ek] at c7
  have hgl : ∀ (j : Nat), PV.sl (.tok j) 1 (upto l (a + k)).length ((upto l (a + k)).map b8) = got8 j (upto l (a + k)) := fun _ => rfl
  have r8' : ∀ z : Int, binP .rem (.int .i64 z) (.int .i64 8) = some (.int .i64 (z.tmod 8)) := fun z => bin_rem (by decide)
  have hr' : (upto l (a + ((k + 1 : Nat) : Int))).length * 1 ≤ roomMax := by omega
  simp only [q6_2, q6_0, q6_1, evL_op, evL_sel, evL_nx, evL_exit, evL_ret, evL_join, evL_block, evL_cond, evK_some, evJ_nx, evJ_rt, evJ_ex, evB_nx, evB_rt, evB_ex, evC2_bool, evS_and, evS_or, evS_tf, evS_ft, ev_t, ev_s, ev_c, evalOp, bin_add, bin_sub, bin_mul, bin_eql, bin_neq, bin_lss, bin_leq, bin_gtr, bin_geq, sbin_eql, sbin_neq, b8, List.map_cons, List.map_nil, PV.rens, PV.ren, if_true, if_false, Bool.false_eq_true, reduceIte, Nat.reduceAdd, Nat.reduceSub, Nat.reduceMul, Nat.reduceEqDiff, Nat.reduceLeDiff, Int.reduceLE, Int.reduceLT, Int.reduceEq, Int.reduceToNat, Int.reduceAdd, Int.reduceSub, Int.reduceNeg, decide_true, decide_false, Bool.not_true, Bool.not_false, Bool.true_and, Bool.false_and, Bool.and_true, Bool.and_false, Bool.or_true, Bool.true_or, Bool.or_false, Bool.false_or, and_self, and_true, true_and, Nat.le_refl, Nat.zero_add, Nat.mul_one, Nat.one_ne_zero, Nat.zero_le, highP, lowP, Option.map_some, Option.map_none, List.drop_zero, List.take_zero, List.length_cons, List.length_nil, List.nil_append, List.append_nil, List.cons_append, fillP, PV.cells?, PV.one, PV.cleans, PV.clean, PV.of?, List.all_cons, List.all_nil, List.take_succ_cons, List.drop_succ_cons, Bool.and_self, Int.natCast_nonneg, Int.toNat_natCast, Int.toNat_zero, Tk.ren, PV.of?, h1, g, w1, w2, hg, hu2, hu3, hr', hr, c7, r8', tailP, ← ek, or_true, true_or, List.getElem?_cons_zero, List.getElem?_cons_succ, List.set_cons_zero, List.set_cons_succ]
theorem loop_fr (N : Int) (l : List UInt8) (hN : 1 ≤ N ∧ N ≤ 65535) (hl : 1 ≤ l.length ∧ l.length ≤ 2000) (a : Int) (h0 : 0 ≤ a) (m : Nat) (hm : a + m ≤ cnt l.length) (hm7 : m ≤ 7) (n i : Int) (x : Snd) (y : Snd) (hy : y.N = N) (hyl : y.l = l) (k0 : Nat) : ∀ (j k kk : Nat), k + j = m → j < kk → ∀ env H,
    headS 4 env H = ([.int .i64 N, sl8 l, .ptr 0 0, .int .i64 n, .int .i64 (a + k), got8 4 (upto l (a + k)), .int .i64 i, .sl .no 5 m ((chunks y a m).flatMap Frm.cells), .int .i64 k], [cellsW (goS N l (a + k) (a + m) 3), .dead, .dead, cellsW x, .tok]) →
    loopL 4 (evL TS k0 q6_2) kk env H = some (.ex 2, [.int .i64 N, sl8 l, .ptr 0 0, .int .i64 n, .int .i64 (a + m), got8 4 (upto l (a + m)), .int .i64 i], [cellsW (goS N l (a + m) (a + m) 3), .dead, .dead, cellsW x, .tok]) := by
  intro j
  induction j with
  | zero =>
    intro k kk h1 h2 env H hh
    obtain ⟨kk, rfl⟩ : ∃ k', kk = k' + 1 := ⟨kk - 1, by omega⟩
    have e : k = m := by omega
    subst e
    rw [loopL_succ, hh]
    simp only [q6_2, evL_op, evL_sel, evL_nx, evL_exit, evL_ret, evL_join, evL_block, evL_cond, evK_some, evJ_nx, evJ_rt, evJ_ex, evB_nx, evB_rt, evB_ex, evC2_bool, evS_and, evS_or, evS_tf, evS_ft, ev_t, ev_s, ev_c, evalOp, bin_add, bin_sub, bin_mul, bin_eql, bin_neq, bin_lss, bin_leq, bin_gtr, bin_geq, sbin_eql, sbin_neq, b8, List.map_cons, List.map_nil, PV.rens, PV.ren, if_true, if_false, Bool.false_eq_true, reduceIte, Nat.reduceAdd, Nat.reduceSub, Nat.reduceMul, Nat.reduceEqDiff, Nat.reduceLeDiff, Int.reduceLE, Int.reduceLT, Int.reduceEq, Int.reduceToNat, Int.reduceAdd, Int.reduceSub, Int.reduceNeg, decide_true, decide_false, Bool.not_true, Bool.not_false, Bool.true_and, Bool.false_and, Bool.and_true, Bool.and_false, Bool.or_true, Bool.true_or, Bool.or_false, Bool.false_or, and_self, and_true, true_and, Nat.le_refl, Nat.zero_add, Nat.mul_one, Nat.one_ne_zero, Nat.zero_le, highP, lowP, Option.map_some, Option.map_none, List.drop_zero, List.take_zero, List.length_cons, List.length_nil, List.nil_append, List.append_nil, List.cons_append, fillP, PV.cells?, PV.one, PV.cleans, PV.clean, PV.of?, List.all_cons, List.all_nil, List.take_succ_cons, List.drop_succ_cons, Bool.and_self, Int.natCast_nonneg, Int.toNat_natCast, Int.toNat_zero, Int.lt_irrefl]
  | succ j ih =>
    intro k kk h1 h2 env H hh
    obtain ⟨kk, rfl⟩ : ∃ k', kk = k' + 1 := ⟨kk - 1, by omega⟩
    rw [loopL_succ, hh]
    dsimp only
    rw [body_fr N l hN hl a h0 m k (by omega) hm hm7 n i 3 (by decide) x y hy hyl]
    exact ih (k + 1) kk (by omega) (by omega) _ _ (headF1 ..)
/-- What a hello is answered. -/
theorem hear_hi {N : Int} {l : List UInt8} {w : Int} (hN : 1 ≤ N ∧ N ≤ 65535) (hl : 1 ≤ l.length ∧ l.length ≤ 2000) {a : Int} (h0 : 0 ≤ a) (h1 : a < cnt l.length) : Snd.hear ⟨N, l, false, 0, 0, w, false⟩ 2 N (a * 48) 0 0 = .ok (goS N l a a 0) := by
  have h3 : a * 48 < l.length := by unfold cnt at h1; omega
  have hrf : RF 2 N (a * 48) 0 0 := by
    unfold RF
    exact ⟨hN, .inl ⟨.inr rfl, by omega, by omega, rfl, rfl⟩⟩
  have hp : Snd.place ⟨N, l, false, 0, 0, w, false⟩ (a * 48) := ⟨by show a * 48 ≤ l.length; omega, fun _ => by rw [Int.tmod_eq_emod_of_nonneg (by omega)]; omega⟩
  have hc : Tab.cnt (a * 48) = a := by unfold Tab.cnt; omega
  unfold Snd.hear
  rw [if_neg (fun hn => hn hrf), if_neg (fun hn => hn.elim (fun e => e rfl) (fun e => by cases e)), if_pos rfl, if_pos hp]
  unfold Snd.ready
  rw [hc]
theorem hear_done {N : Int} {l : List UInt8} {w : Int} (hN : 1 ≤ N ∧ N ≤ 65535) {a x : Int} : (goS N l a x w).hear 5 N 0 0 0 = .ok ⟨N, l, true, a, x, w, true⟩ := by
  have hrf : RF 5 N 0 0 0 := by
    unfold RF
    exact ⟨hN, .inr (.inr (.inr ⟨rfl, rfl, rfl, rfl⟩))⟩
  unfold Snd.hear
  rw [if_neg (fun hn => hn hrf), if_neg (fun hn => hn.elim (fun e => e rfl) (fun e => by cases e)), if_neg (by decide), if_neg (by decide), if_pos rfl]
abbrev hiO (N : Int) (l : List UInt8) : PV := .sl .no 5 1 [.int .i64 1, .int .i64 N, .int .i64 l.length, .int .i64 0, .sl .nil 0 0 []]
theorem loop_hi (N : Int) (l : List UInt8) (hN : 1 ≤ N ∧ N ≤ 65535) (hl : 1 ≤ l.length ∧ l.length ≤ 2000) (a : Int) (h0 : 0 ≤ a) (h1 : a < cnt l.length) (n i : Int) (x : Snd) (k0 kk : Nat) :
    loopL 4 (evL TS k0 q6_2) (kk + 2) [.int .i64 N, sl8 l, .ptr 0 0, .int .i64 n, .int .i64 a, got8 2 (upto l a), .int .i64 i, hiO N l, .int .i64 0] [cellsW ⟨N, l, false, 0, 0, 3, false⟩, .dead, .tok, cellsW x] =
      some (.ex 2, [.int .i64 N, sl8 l, .ptr 0 0, .int .i64 n, .int .i64 a, got8 4 (upto l a), .int .i64 i], [cellsW (goS N l a a 0), .dead, .dead, cellsW x, .tok]) := by
  have h3 : a * 48 < l.length := by unfold cnt at h1; omega
  have hg : ((upto l a).length : Int) = a * 48 := by rw [upto_len (by omega)]; unfold mn; rw [if_neg (by omega)]
  have hne : ¬ a * 48 = (l.length : Int) := by omega
  have o1 : ((1 : Nat) : Int) = 1 := rfl
  have w1 : IntKind.i64.wrap 1 = 1 := wr (by decide) (by decide)
  have hok : Snd.ok ⟨N, l, false, 0, 0, 3, false⟩ := ⟨hN, by show (1 : Int) ≤ l.length ∧ (l.length : Int) ≤ 5000; omega, ⟨(by decide : (0 : Int) ≤ 3), (by decide : (3 : Int) ≤ 3)⟩, .inr ⟨rfl, rfl⟩, ⟨Int.le_refl _, by show 0 ≤ cnt l.length; omega⟩, Int.le_refl _, le_mn.2 ⟨(by decide : (0 : Int) ≤ 0 + 7), by show 0 ≤ cnt l.length; omega⟩⟩
  have c7 : TS 16 [sndP N l false 0 0 3 false, .agg [.int .i64 2, .int .i64 N, .int .i64 (a * 48), .int .i64 0, .sl .nil 0 0 []]] [] = some (.tup (hearPV (Snd.hear ⟨N, l, false, 0, 0, 3, false⟩ 2 N (a * 48) 0 0)), []) := T_Hear ⟨N, l, false, 0, 0, 3, false⟩ hok 2 N (a * 48) 0 nilB
  rw [hear_hi hN hl h0 h1] at c7
  simp only [hearPV] at c7
  rw [loopL_succ, headF0]
  dsimp only
  have hb : evL TS k0 q6_2 [.int .i64 N, sl8 l, .ptr 0 0, .int .i64 n, .int .i64 a, got8 4 (upto l a), .int .i64 i, hiO N l, .int .i64 0] [cellsW ⟨N, l, false, 0, 0, 3, false⟩, .dead, .dead, cellsW x, .tok] =
      some (.nx, [.int .i64 N, sl8 l, .ptr 0 0, .int .i64 n, .int .i64 a, got8 4 (upto l a), .int .i64 i, hiO N l, .int .i64 1], [cellsW (goS N l a a 0), .dead, .dead, cellsW x, .tok, .cells [.int .i64 2, .int .i64 N, .int .i64 (a * 48), .int .i64 0, .sl .nil 0 0 []], cellsW (goS N l a a 0)]) := by
    simp only [q6_2, q6_0, q6_1, evL_op, evL_sel, evL_nx, evL_exit, evL_ret, evL_join, evL_block, evL_cond, evK_some, evJ_nx, evJ_rt, evJ_ex, evB_nx, evB_rt, evB_ex, evC2_bool, evS_and, evS_or, evS_tf, evS_ft, ev_t, ev_s, ev_c, evalOp, bin_add, bin_sub, bin_mul, bin_eql, bin_neq, bin_lss, bin_leq, bin_gtr, bin_geq, sbin_eql, sbin_neq, b8, List.map_cons, List.map_nil, PV.rens, PV.ren, if_true, if_false, Bool.false_eq_true, reduceIte, Nat.reduceAdd, Nat.reduceSub, Nat.reduceMul, Nat.reduceEqDiff, Nat.reduceLeDiff, Int.reduceLE, Int.reduceLT, Int.reduceEq, Int.reduceToNat, Int.reduceAdd, Int.reduceSub, Int.reduceNeg, decide_true, decide_false, Bool.not_true, Bool.not_false, Bool.true_and, Bool.false_and, Bool.and_true, Bool.and_false, Bool.or_true, Bool.true_or, Bool.or_false, Bool.false_or, and_self, and_true, true_and, Nat.le_refl, Nat.zero_add, Nat.mul_one, Nat.one_ne_zero, Nat.zero_le, highP, lowP, Option.map_some, Option.map_none, List.drop_zero, List.take_zero, List.length_cons, List.length_nil, List.nil_append, List.append_nil, List.cons_append, fillP, PV.cells?, PV.one, PV.cleans, PV.clean, PV.of?, List.all_cons, List.all_nil, List.take_succ_cons, List.drop_succ_cons, Bool.and_self, Int.natCast_nonneg, Int.toNat_natCast, Int.toNat_zero, Tk.ren, PV.of?, o1, w1, c7, tailP, or_true, true_or, List.getElem?_cons_zero, List.getElem?_cons_succ, List.set_cons_zero, List.set_cons_succ, hg, hne]
  rw [hb]
  dsimp only
  rw [loopL_succ, headF2]
  simp only [q6_2, evL_op, evL_sel, evL_nx, evL_exit, evL_ret, evL_join, evL_block, evL_cond, evK_some, evJ_nx, evJ_rt, evJ_ex, evB_nx, evB_rt, evB_ex, evC2_bool, evS_and, evS_or, evS_tf, evS_ft, ev_t, ev_s, ev_c, evalOp, bin_add, bin_sub, bin_mul, bin_eql, bin_neq, bin_lss, bin_leq, bin_gtr, bin_geq, sbin_eql, sbin_neq, b8, List.map_cons, List.map_nil, PV.rens, PV.ren, if_true, if_false, Bool.false_eq_true, reduceIte, Nat.reduceAdd, Nat.reduceSub, Nat.reduceMul, Nat.reduceEqDiff, Nat.reduceLeDiff, Int.reduceLE, Int.reduceLT, Int.reduceEq, Int.reduceToNat, Int.reduceAdd, Int.reduceSub, Int.reduceNeg, decide_true, decide_false, Bool.not_true, Bool.not_false, Bool.true_and, Bool.false_and, Bool.and_true, Bool.and_false, Bool.or_true, Bool.true_or, Bool.or_false, Bool.false_or, and_self, and_true, true_and, Nat.le_refl, Nat.zero_add, Nat.mul_one, Nat.one_ne_zero, Nat.zero_le, highP, lowP, Option.map_some, Option.map_none, List.drop_zero, List.take_zero, List.length_cons, List.length_nil, List.nil_append, List.append_nil, List.cons_append, fillP, PV.cells?, PV.one, PV.cleans, PV.clean, PV.of?, List.all_cons, List.all_nil, List.take_succ_cons, List.drop_succ_cons, Bool.and_self, Int.natCast_nonneg, Int.toNat_natCast, Int.toNat_zero, o1]
theorem loop_done (N : Int) (l : List UInt8) (hN : 1 ≤ N ∧ N ≤ 65535) (hl : 1 ≤ l.length ∧ l.length ≤ 2000) (a : Int) (ha : a = cnt l.length) (n i : Int) (x : Snd) (k0 kk : Nat) :
    loopL 4 (evL TS k0 q6_2) (kk + 2) [.int .i64 N, sl8 l, .ptr 0 0, .int .i64 n, .int .i64 a, got8 2 l, .int .i64 i, hiO N l, .int .i64 0] [cellsW (goS N l a a 3), .dead, .tok, cellsW x] =
      some (.ex 2, [.int .i64 N, sl8 l, .ptr 0 0, .int .i64 n, .int .i64 a, got8 4 l, .int .i64 i], [cellsW ⟨N, l, true, a, a, 3, true⟩, .dead, .dead, cellsW x, .tok]) := by
  have o1 : ((1 : Nat) : Int) = 1 := rfl
  have w1 : IntKind.i64.wrap 1 = 1 := wr (by decide) (by decide)
  have ha0 : 0 ≤ a := by rw [ha]; unfold cnt; omega
  have c7 : TS 16 [sndP N l true a a 3 false, .agg [.int .i64 5, .int .i64 N, .int .i64 0, .int .i64 0, .sl .nil 0 0 []]] [] = some (.tup (hearPV ((goS N l a a 3).hear 5 N 0 0 0)), []) := T_Hear (goS N l a a 3) (goS_ok hN hl ha0 (Int.le_refl _) (by omega) (by omega) (by decide)) 5 N 0 0 nilB
  rw [hear_done hN] at c7
  simp only [hearPV] at c7
  rw [loopL_succ, headF0]
  dsimp only
  have hb : evL TS k0 q6_2 [.int .i64 N, sl8 l, .ptr 0 0, .int .i64 n, .int .i64 a, got8 4 l, .int .i64 i, hiO N l, .int .i64 0] [cellsW (goS N l a a 3), .dead, .dead, cellsW x, .tok] =
      some (.nx, [.int .i64 N, sl8 l, .ptr 0 0, .int .i64 n, .int .i64 a, got8 4 l, .int .i64 i, hiO N l, .int .i64 1], [cellsW ⟨N, l, true, a, a, 3, true⟩, .dead, .dead, cellsW x, .tok, .cells [.int .i64 5, .int .i64 N, .int .i64 0, .int .i64 0, .sl .nil 0 0 []], cellsW ⟨N, l, true, a, a, 3, true⟩]) := by
    simp only [q6_2, q6_0, q6_1, evL_op, evL_sel, evL_nx, evL_exit, evL_ret, evL_join, evL_block, evL_cond, evK_some, evJ_nx, evJ_rt, evJ_ex, evB_nx, evB_rt, evB_ex, evC2_bool, evS_and, evS_or, evS_tf, evS_ft, ev_t, ev_s, ev_c, evalOp, bin_add, bin_sub, bin_mul, bin_eql, bin_neq, bin_lss, bin_leq, bin_gtr, bin_geq, sbin_eql, sbin_neq, b8, List.map_cons, List.map_nil, PV.rens, PV.ren, if_true, if_false, Bool.false_eq_true, reduceIte, Nat.reduceAdd, Nat.reduceSub, Nat.reduceMul, Nat.reduceEqDiff, Nat.reduceLeDiff, Int.reduceLE, Int.reduceLT, Int.reduceEq, Int.reduceToNat, Int.reduceAdd, Int.reduceSub, Int.reduceNeg, decide_true, decide_false, Bool.not_true, Bool.not_false, Bool.true_and, Bool.false_and, Bool.and_true, Bool.and_false, Bool.or_true, Bool.true_or, Bool.or_false, Bool.false_or, and_self, and_true, true_and, Nat.le_refl, Nat.zero_add, Nat.mul_one, Nat.one_ne_zero, Nat.zero_le, highP, lowP, Option.map_some, Option.map_none, List.drop_zero, List.take_zero, List.length_cons, List.length_nil, List.nil_append, List.append_nil, List.cons_append, fillP, PV.cells?, PV.one, PV.cleans, PV.clean, PV.of?, List.all_cons, List.all_nil, List.take_succ_cons, List.drop_succ_cons, Bool.and_self, Int.natCast_nonneg, Int.toNat_natCast, Int.toNat_zero, Tk.ren, PV.of?, o1, w1, c7, tailP, or_true, true_or, List.getElem?_cons_zero, List.getElem?_cons_succ, List.set_cons_zero, List.set_cons_succ]
  rw [hb]
  dsimp only
  rw [loopL_succ, headF2]
  simp only [q6_2, evL_op, evL_sel, evL_nx, evL_exit, evL_ret, evL_join, evL_block, evL_cond, evK_some, evJ_nx, evJ_rt, evJ_ex, evB_nx, evB_rt, evB_ex, evC2_bool, evS_and, evS_or, evS_tf, evS_ft, ev_t, ev_s, ev_c, evalOp, bin_add, bin_sub, bin_mul, bin_eql, bin_neq, bin_lss, bin_leq, bin_gtr, bin_geq, sbin_eql, sbin_neq, b8, List.map_cons, List.map_nil, PV.rens, PV.ren, if_true, if_false, Bool.false_eq_true, reduceIte, Nat.reduceAdd, Nat.reduceSub, Nat.reduceMul, Nat.reduceEqDiff, Nat.reduceLeDiff, Int.reduceLE, Int.reduceLT, Int.reduceEq, Int.reduceToNat, Int.reduceAdd, Int.reduceSub, Int.reduceNeg, decide_true, decide_false, Bool.not_true, Bool.not_false, Bool.true_and, Bool.false_and, Bool.and_true, Bool.and_false, Bool.or_true, Bool.true_or, Bool.or_false, Bool.false_or, and_self, and_true, true_and, Nat.le_refl, Nat.zero_add, Nat.mul_one, Nat.one_ne_zero, Nat.zero_le, highP, lowP, Option.map_some, Option.map_none, List.drop_zero, List.take_zero, List.length_cons, List.length_nil, List.nil_append, List.append_nil, List.cons_append, fillP, PV.cells?, PV.one, PV.cleans, PV.clean, PV.of?, List.all_cons, List.all_nil, List.take_succ_cons, List.drop_succ_cons, Bool.and_self, Int.natCast_nonneg, Int.toNat_natCast, Int.toNat_zero, o1]
theorem headV0 (a b c d : Int) (l : List PV) (n z g : Nat) (gs : List PV) (N B X W N' B' X' W' : Int) (sl sl' : List UInt8) (R O R' O' : Bool) : headS 5 [.int .i64 a, .sl .no 1 n l, .ptr 0 0, .int .i64 b, .int .i64 c, .sl (.tok 4) z g gs, .int .i64 d] [.cells (sndC N sl R B X W O), .dead, .dead, .cells (sndC N' sl' R' B' X' W' O'), .tok] =
    ([.int .i64 a, .sl .no 1 n l, .ptr 0 0, .int .i64 b, .int .i64 c, .sl (.tok 5) z g gs, .int .i64 d], [.cells (sndC N sl R B X W O), .dead, .dead, .cells (sndC N' sl' R' B' X' W' O'), .dead, .tok]) := by kernel_rfl
theorem headV1 (a b c d : Int) (l : List PV) (n z g : Nat) (gs : List PV) (N B X W N' B' X' W' N2 B2 X2 W2 : Int) (sl sl' sl2 : List UInt8) (R O R' O' R2 O2 : Bool) : headS 5 [.int .i64 a, .sl .no 1 n l, .ptr 0 0, .int .i64 b, .int .i64 c, .sl (.tok 5) z g gs, .int .i64 d] [.cells (sndC N sl R B X W O), .dead, .dead, .cells (sndC N' sl' R' B' X' W' O'), .dead, .tok, .cells (sndC N2 sl2 R2 B2 X2 W2 O2)] =
    ([.int .i64 a, .sl .no 1 n l, .ptr 0 0, .int .i64 b, .int .i64 c, .sl (.tok 5) z g gs, .int .i64 d], [.cells (sndC N sl R B X W O), .dead, .dead, .cells (sndC N' sl' R' B' X' W' O'), .dead, .tok]) := by kernel_rfl
theorem tick_wait {N : Int} {l : List UInt8} {a w : Int} (ha : a = cnt l.length) (hw : 0 < w) : (goS N l a a w).tick = goS N l a a (w - 1) ∧ (goS N l a a w).out = [] := by
  have h1 : ¬ a < (goS N l a a w).top := by show ¬ a < mn (a + 7) (cnt l.length); unfold mn; split <;> omega
  constructor
  · unfold Snd.tick
    rw [if_neg Bool.false_ne_true, if_neg (fun hh => h1 hh.2), if_pos hw]
  · unfold Snd.out
    rw [if_neg Bool.false_ne_true, if_neg (fun hh => h1 hh.2), if_pos hw]
theorem loop_wait (N : Int) (l : List UInt8) (hN : 1 ≤ N ∧ N ≤ 65535) (hl : 1 ≤ l.length ∧ l.length ≤ 2000) (a : Int) (ha : a = cnt l.length) (g : List UInt8) (i : Int) (x : Snd) (k0 : Nat) : ∀ (j : Nat) (kk : Nat), j ≤ 3 → j < kk → ∀ env H,
    headS 5 env H = ([.int .i64 N, sl8 l, .ptr 0 0, .int .i64 (cnt l.length), .int .i64 a, got8 5 g, .int .i64 i], [cellsW (goS N l a a j), .dead, .dead, cellsW x, .dead, .tok]) →
    loopL 5 (evL TS k0 q6_4) kk env H = some (.ex 5, [.int .i64 N, sl8 l, .ptr 0 0, .int .i64 (cnt l.length), .int .i64 a, got8 5 g, .int .i64 i], [cellsW (goS N l a a 0), .dead, .dead, cellsW x, .dead, .tok]) := by
  have ha0 : 0 ≤ a := by rw [ha]; unfold cnt; omega
  intro j
  induction j with
  | zero =>
    intro kk h1 h2 env H hh
    obtain ⟨kk, rfl⟩ : ∃ k', kk = k' + 1 := ⟨kk - 1, by omega⟩
    have o0 : ((0 : Nat) : Int) = 0 := rfl
    rw [loopL_succ, hh, o0]
    simp only [q6_4, evL_op, evL_sel, evL_nx, evL_exit, evL_ret, evL_join, evL_block, evL_cond, evK_some, evJ_nx, evJ_rt, evJ_ex, evB_nx, evB_rt, evB_ex, evC2_bool, evS_and, evS_or, evS_tf, evS_ft, ev_t, ev_s, ev_c, evalOp, bin_add, bin_sub, bin_mul, bin_eql, bin_neq, bin_lss, bin_leq, bin_gtr, bin_geq, sbin_eql, sbin_neq, b8, List.map_cons, List.map_nil, PV.rens, PV.ren, if_true, if_false, Bool.false_eq_true, reduceIte, Nat.reduceAdd, Nat.reduceSub, Nat.reduceMul, Nat.reduceEqDiff, Nat.reduceLeDiff, Int.reduceLE, Int.reduceLT, Int.reduceEq, Int.reduceToNat, Int.reduceAdd, Int.reduceSub, Int.reduceNeg, decide_true, decide_false, Bool.not_true, Bool.not_false, Bool.true_and, Bool.false_and, Bool.and_true, Bool.and_false, Bool.or_true, Bool.true_or, Bool.or_false, Bool.false_or, and_self, and_true, true_and, Nat.le_refl, Nat.zero_add, Nat.mul_one, Nat.one_ne_zero, Nat.zero_le, highP, lowP, Option.map_some, Option.map_none, List.drop_zero, List.take_zero, List.length_cons, List.length_nil, List.nil_append, List.append_nil, List.cons_append, fillP, PV.cells?, PV.one, PV.cleans, PV.clean, PV.of?, List.all_cons, List.all_nil, List.take_succ_cons, List.drop_succ_cons, Bool.and_self, Int.natCast_nonneg, Int.toNat_natCast, Int.toNat_zero, PV.of?, Int.lt_irrefl, List.getElem?_cons_zero]
  | succ j ih =>
    intro kk h1 h2 env H hh
    obtain ⟨kk, rfl⟩ : ∃ k', kk = k' + 1 := ⟨kk - 1, by omega⟩
    have hj : (0 : Int) < ((j + 1 : Nat) : Int) := by omega
    have hj2 : ¬ ((j + 1 : Nat) : Int) ≤ (j : Int) := by omega
    have c4 : TS 11 [sndP N l true a a ((j + 1 : Nat) : Int) false] [] = _ := T_Tick (goS N l a a ((j + 1 : Nat) : Int)) (goS_ok hN hl ha0 (Int.le_refl _) (by omega) (by omega) (by omega))
    rw [(tick_wait ha hj).1, (tick_wait ha hj).2, show ((j + 1 : Nat) : Int) - 1 = j by omega] at c4
    have hb : evL TS k0 q6_4 [.int .i64 N, sl8 l, .ptr 0 0, .int .i64 (cnt l.length), .int .i64 a, got8 5 g, .int .i64 i] [cellsW (goS N l a a ((j + 1 : Nat) : Int)), .dead, .dead, cellsW x, .dead, .tok] =
        some (.nx, [.int .i64 N, sl8 l, .ptr 0 0, .int .i64 (cnt l.length), .int .i64 a, got8 5 g, .int .i64 i], [cellsW (goS N l a a j), .dead, .dead, cellsW x, .dead, .tok, cellsW (goS N l a a j)]) := by
      simp only [q6_4, q6_3, evL_op, evL_sel, evL_nx, evL_exit, evL_ret, evL_join, evL_block, evL_cond, evK_some, evJ_nx, evJ_rt, evJ_ex, evB_nx, evB_rt, evB_ex, evC2_bool, evS_and, evS_or, evS_tf, evS_ft, ev_t, ev_s, ev_c, evalOp, bin_add, bin_sub, bin_mul, bin_eql, bin_neq, bin_lss, bin_leq, bin_gtr, bin_geq, sbin_eql, sbin_neq, b8, List.map_cons, List.map_nil, PV.rens, PV.ren, if_true, if_false, Bool.false_eq_true, reduceIte, Nat.reduceAdd, Nat.reduceSub, Nat.reduceMul, Nat.reduceEqDiff, Nat.reduceLeDiff, Int.reduceLE, Int.reduceLT, Int.reduceEq, Int.reduceToNat, Int.reduceAdd, Int.reduceSub, Int.reduceNeg, decide_true, decide_false, Bool.not_true, Bool.not_false, Bool.true_and, Bool.false_and, Bool.and_true, Bool.and_false, Bool.or_true, Bool.true_or, Bool.or_false, Bool.false_or, and_self, and_true, true_and, Nat.le_refl, Nat.zero_add, Nat.mul_one, Nat.one_ne_zero, Nat.zero_le, highP, lowP, Option.map_some, Option.map_none, List.drop_zero, List.take_zero, List.length_cons, List.length_nil, List.nil_append, List.append_nil, List.cons_append, fillP, PV.cells?, PV.one, PV.cleans, PV.clean, PV.of?, List.all_cons, List.all_nil, List.take_succ_cons, List.drop_succ_cons, Bool.and_self, Int.natCast_nonneg, Int.toNat_natCast, Int.toNat_zero, Tk.ren, PV.of?, ← ha, hj, hj2, c4, outPV, List.getElem?_cons_zero, List.getElem?_cons_succ, List.set_cons_zero, List.set_cons_succ]
    rw [loopL_succ, hh]
    dsimp only
    rw [hb]
    exact ih kk (by omega) (by omega) _ _ (headV1 ..)
theorem stepB (N : Int) (l : List UInt8) (hN : 1 ≤ N ∧ N ≤ 65535) (hl : 1 ≤ l.length ∧ l.length ≤ 2000) (c i : Int) (hc : c = cnt l.length) (hi : i < c + 3) (k0 : Nat) (hk : 12 ≤ k0) : ∃ H,
    evL TS k0 q6_8 [.int .i64 N, sl8 l, .ptr 0 0, .int .i64 c, .int .i64 c, got8 2 l, .int .i64 i] [cellsW (goS N l c c 0), .dead, .tok] = some (.rt, [.bool true], H) := by
  obtain ⟨kk, rfl⟩ : ∃ kk, k0 = kk + 2 := ⟨k0 - 2, by omega⟩
  have hc0 : 0 ≤ c ∧ c ≤ 200 := by rw [hc]; unfold cnt; omega
  have w1 : IntKind.i64.wrap (c + 3) = c + 3 := wr (by omega) (by omega)
  have h1 : ¬ c < (goS N l c c 0).top := by show ¬ c < mn (c + 7) (cnt l.length); unfold mn; split <;> omega
  have h2 : ¬ c < (goS N l c c 0).cnt := by show ¬ c < cnt l.length; omega
  have e1 : (goS N l c c 0).tick = goS N l c c 3 := by
    unfold Snd.tick
    rw [if_neg Bool.false_ne_true, if_neg (fun hh => h1 hh.2), if_neg (Int.lt_irrefl 0), if_neg h2]
  have e2 : (goS N l c c 0).out = [helloF (goS N l c c 0)] := by
    unfold Snd.out
    rw [if_neg Bool.false_ne_true, if_neg (fun hh => h1 hh.2), if_neg (Int.lt_irrefl 0)]
  have c4 : TS 11 [sndP N l true c c 0 false] [] = _ := T_Tick (goS N l c c 0) (goS_ok hN hl hc0.1 (Int.le_refl _) (by omega) (by omega) (by decide))
  rw [e1, e2] at c4
  have lp := loop_done N l hN hl c hc c i (goS N l c c 3) (kk + 2) kk
  have c5 := T_bytes (p := sl8 l) (q := sl8 l) (slB l) (slB l) (by omega)
  refine ⟨[cellsW ⟨N, l, true, c, c, 3, true⟩, .dead, .dead, cellsW (goS N l c c 3), .tok], ?_⟩
  simp only [q6_8, evL_op, evL_sel, evL_nx, evL_exit, evL_ret, evL_join, evL_block, evL_cond, evK_some, evJ_nx, evJ_rt, evJ_ex, evB_nx, evB_rt, evB_ex, evC2_bool, evS_and, evS_or, evS_tf, evS_ft, ev_t, ev_s, ev_c, evalOp, bin_add, bin_sub, bin_mul, bin_eql, bin_neq, bin_lss, bin_leq, bin_gtr, bin_geq, sbin_eql, sbin_neq, b8, List.map_cons, List.map_nil, PV.rens, PV.ren, if_true, if_false, Bool.false_eq_true, reduceIte, Nat.reduceAdd, Nat.reduceSub, Nat.reduceMul, Nat.reduceEqDiff, Nat.reduceLeDiff, Int.reduceLE, Int.reduceLT, Int.reduceEq, Int.reduceToNat, Int.reduceAdd, Int.reduceSub, Int.reduceNeg, decide_true, decide_false, Bool.not_true, Bool.not_false, Bool.true_and, Bool.false_and, Bool.and_true, Bool.and_false, Bool.or_true, Bool.true_or, Bool.or_false, Bool.false_or, and_self, and_true, true_and, Nat.le_refl, Nat.zero_add, Nat.mul_one, Nat.one_ne_zero, Nat.zero_le, highP, lowP, Option.map_some, Option.map_none, List.drop_zero, List.take_zero, List.length_cons, List.length_nil, List.nil_append, List.append_nil, List.cons_append, fillP, PV.cells?, PV.one, PV.cleans, PV.clean, PV.of?, List.all_cons, List.all_nil, List.take_succ_cons, List.drop_succ_cons, Bool.and_self, Int.natCast_nonneg, Int.toNat_natCast, Int.toNat_zero, Tk.ren, PV.of?, w1, hi, c4, outPV, helloF, dpv, Frm.cells, List.flatMap_cons, List.flatMap_nil, evL_loop, List.getElem?_cons_zero, List.getElem?_cons_succ, List.set_cons_zero, List.set_cons_succ]
  rw [lp]
  simp only [q6_6, evL_op, evL_sel, evL_nx, evL_exit, evL_ret, evL_join, evL_block, evL_cond, evK_some, evJ_nx, evJ_rt, evJ_ex, evB_nx, evB_rt, evB_ex, evC2_bool, evS_and, evS_or, evS_tf, evS_ft, ev_t, ev_s, ev_c, evalOp, bin_add, bin_sub, bin_mul, bin_eql, bin_neq, bin_lss, bin_leq, bin_gtr, bin_geq, sbin_eql, sbin_neq, b8, List.map_cons, List.map_nil, PV.rens, PV.ren, if_true, if_false, Bool.false_eq_true, reduceIte, Nat.reduceAdd, Nat.reduceSub, Nat.reduceMul, Nat.reduceEqDiff, Nat.reduceLeDiff, Int.reduceLE, Int.reduceLT, Int.reduceEq, Int.reduceToNat, Int.reduceAdd, Int.reduceSub, Int.reduceNeg, decide_true, decide_false, Bool.not_true, Bool.not_false, Bool.true_and, Bool.false_and, Bool.and_true, Bool.and_false, Bool.or_true, Bool.true_or, Bool.or_false, Bool.false_or, and_self, and_true, true_and, Nat.le_refl, Nat.zero_add, Nat.mul_one, Nat.one_ne_zero, Nat.zero_le, highP, lowP, Option.map_some, Option.map_none, List.drop_zero, List.take_zero, List.length_cons, List.length_nil, List.nil_append, List.append_nil, List.cons_append, fillP, PV.cells?, PV.one, PV.cleans, PV.clean, PV.of?, List.all_cons, List.all_nil, List.take_succ_cons, List.drop_succ_cons, Bool.and_self, Int.natCast_nonneg, Int.toNat_natCast, Int.toNat_zero, Tk.ren, PV.of?, c5, T_wakes, List.getElem?_cons_zero, List.getElem?_cons_succ]
abbrev envW (N : Int) (l : List UInt8) (c a : Int) (k : Nat) (g : List UInt8) (i : Int) : List PV := [.int .i64 N, sl8 l, .ptr 0 0, .int .i64 c, .int .i64 a, got8 k g, .int .i64 i]
/-- The first round: it asks, and is told how far the other is. -/
theorem stepA0 (N : Int) (l : List UInt8) (hN : 1 ≤ N ∧ N ≤ 65535) (hl : 1 ≤ l.length ∧ l.length ≤ 2000) (c a : Int) (hc : c = cnt l.length) (h0 : 0 ≤ a) (h1 : a < c) (k0 : Nat) (hk : 12 ≤ k0) : ∃ x : Snd,
    evL TS k0 q6_8 (envW N l c a 2 (upto l a) 0) [cellsW ⟨N, l, false, 0, 0, 0, false⟩, .dead, .tok] = some (.nx, envW N l c a 5 (upto l a) 1, [cellsW (goS N l a a 0), .dead, .dead, cellsW x, .dead, .tok]) := by
  obtain ⟨kk, rfl⟩ : ∃ kk, k0 = kk + 2 := ⟨k0 - 2, by omega⟩
  have hc0 : 1 ≤ c ∧ c ≤ 200 := by rw [hc]; unfold cnt; omega
  have w1 : IntKind.i64.wrap (c + 3) = c + 3 := wr (by omega) (by omega)
  have w2 : IntKind.i64.wrap 1 = 1 := wr (by decide) (by decide)
  have hi : (0 : Int) < c + 3 := by omega
  have h2 : (0 : Int) < Snd.cnt ⟨N, l, false, 0, 0, 0, false⟩ := by show 0 < cnt l.length; omega
  have hok : Snd.ok ⟨N, l, false, 0, 0, 0, false⟩ := ⟨hN, by show (1 : Int) ≤ l.length ∧ (l.length : Int) ≤ 5000; omega, ⟨(by decide : (0 : Int) ≤ 0), (by decide : (0 : Int) ≤ 3)⟩, .inr ⟨rfl, rfl⟩, ⟨Int.le_refl _, by show 0 ≤ cnt l.length; omega⟩, Int.le_refl _, le_mn.2 ⟨(by decide : (0 : Int) ≤ 0 + 7), by show 0 ≤ cnt l.length; omega⟩⟩
  have c4 : TS 11 [sndP N l false 0 0 0 false] [] = _ := T_Tick ⟨N, l, false, 0, 0, 0, false⟩ hok
  have e1 : Snd.tick ⟨N, l, false, 0, 0, 0, false⟩ = ⟨N, l, false, 0, 0, 3, false⟩ := by
    unfold Snd.tick
    rw [if_neg Bool.false_ne_true, if_neg (fun hh => Bool.false_ne_true hh.1), if_neg (Int.lt_irrefl 0), if_pos h2]
  have e2 : Snd.out ⟨N, l, false, 0, 0, 0, false⟩ = [helloF ⟨N, l, false, 0, 0, 0, false⟩] := by
    unfold Snd.out
    rw [if_neg Bool.false_ne_true, if_neg (fun hh => Bool.false_ne_true hh.1), if_neg (Int.lt_irrefl 0)]
  rw [e1, e2] at c4
  have lp := loop_hi N l hN hl a h0 (by omega) c 0 ⟨N, l, false, 0, 0, 3, false⟩ (kk + 2) kk
  have hne : ¬ a = c := by omega
  refine ⟨⟨N, l, false, 0, 0, 3, false⟩, ?_⟩
  have lw : loopL 5 (evL TS (kk + 2) q6_4) (kk + 2) [.int .i64 N, sl8 l, .ptr 0 0, .int .i64 c, .int .i64 a, got8 4 (upto l a), .int .i64 0] [cellsW (goS N l a a 0), .dead, .dead, cellsW ⟨N, l, false, 0, 0, 3, false⟩, .tok] = some (.ex 5, [.int .i64 N, sl8 l, .ptr 0 0, .int .i64 c, .int .i64 a, got8 5 (upto l a), .int .i64 0], [cellsW (goS N l a a 0), .dead, .dead, cellsW ⟨N, l, false, 0, 0, 3, false⟩, .dead, .tok]) := by
    rw [loopL_succ, headV0]
    simp only [q6_4, evL_op, evL_sel, evL_nx, evL_exit, evL_ret, evL_join, evL_block, evL_cond, evK_some, evJ_nx, evJ_rt, evJ_ex, evB_nx, evB_rt, evB_ex, evC2_bool, evS_and, evS_or, evS_tf, evS_ft, ev_t, ev_s, ev_c, evalOp, bin_add, bin_sub, bin_mul, bin_eql, bin_neq, bin_lss, bin_leq, bin_gtr, bin_geq, sbin_eql, sbin_neq, b8, List.map_cons, List.map_nil, PV.rens, PV.ren, if_true, if_false, Bool.false_eq_true, reduceIte, Nat.reduceAdd, Nat.reduceSub, Nat.reduceMul, Nat.reduceEqDiff, Nat.reduceLeDiff, Int.reduceLE, Int.reduceLT, Int.reduceEq, Int.reduceToNat, Int.reduceAdd, Int.reduceSub, Int.reduceNeg, decide_true, decide_false, Bool.not_true, Bool.not_false, Bool.true_and, Bool.false_and, Bool.and_true, Bool.and_false, Bool.or_true, Bool.true_or, Bool.or_false, Bool.false_or, and_self, and_true, true_and, Nat.le_refl, Nat.zero_add, Nat.mul_one, Nat.one_ne_zero, Nat.zero_le, highP, lowP, Option.map_some, Option.map_none, List.drop_zero, List.take_zero, List.length_cons, List.length_nil, List.nil_append, List.append_nil, List.cons_append, fillP, PV.cells?, PV.one, PV.cleans, PV.clean, PV.of?, List.all_cons, List.all_nil, List.take_succ_cons, List.drop_succ_cons, Bool.and_self, Int.natCast_nonneg, Int.toNat_natCast, Int.toNat_zero, PV.of?, hne, List.getElem?_cons_zero]
  simp only [q6_8, evL_op, evL_sel, evL_nx, evL_exit, evL_ret, evL_join, evL_block, evL_cond, evK_some, evJ_nx, evJ_rt, evJ_ex, evB_nx, evB_rt, evB_ex, evC2_bool, evS_and, evS_or, evS_tf, evS_ft, ev_t, ev_s, ev_c, evalOp, bin_add, bin_sub, bin_mul, bin_eql, bin_neq, bin_lss, bin_leq, bin_gtr, bin_geq, sbin_eql, sbin_neq, b8, List.map_cons, List.map_nil, PV.rens, PV.ren, if_true, if_false, Bool.false_eq_true, reduceIte, Nat.reduceAdd, Nat.reduceSub, Nat.reduceMul, Nat.reduceEqDiff, Nat.reduceLeDiff, Int.reduceLE, Int.reduceLT, Int.reduceEq, Int.reduceToNat, Int.reduceAdd, Int.reduceSub, Int.reduceNeg, decide_true, decide_false, Bool.not_true, Bool.not_false, Bool.true_and, Bool.false_and, Bool.and_true, Bool.and_false, Bool.or_true, Bool.true_or, Bool.or_false, Bool.false_or, and_self, and_true, true_and, Nat.le_refl, Nat.zero_add, Nat.mul_one, Nat.one_ne_zero, Nat.zero_le, highP, lowP, Option.map_some, Option.map_none, List.drop_zero, List.take_zero, List.length_cons, List.length_nil, List.nil_append, List.append_nil, List.cons_append, fillP, PV.cells?, PV.one, PV.cleans, PV.clean, PV.of?, List.all_cons, List.all_nil, List.take_succ_cons, List.drop_succ_cons, Bool.and_self, Int.natCast_nonneg, Int.toNat_natCast, Int.toNat_zero, Tk.ren, PV.of?, w1, hi, c4, outPV, helloF, dpv, Frm.cells, List.flatMap_cons, List.flatMap_nil, evL_loop, List.getElem?_cons_zero, List.getElem?_cons_succ, List.set_cons_zero, List.set_cons_succ]
  rw [lp]
  simp only [q6_6, evL_op, evL_sel, evL_nx, evL_exit, evL_ret, evL_join, evL_block, evL_cond, evK_some, evJ_nx, evJ_rt, evJ_ex, evB_nx, evB_rt, evB_ex, evC2_bool, evS_and, evS_or, evS_tf, evS_ft, ev_t, ev_s, ev_c, evalOp, bin_add, bin_sub, bin_mul, bin_eql, bin_neq, bin_lss, bin_leq, bin_gtr, bin_geq, sbin_eql, sbin_neq, b8, List.map_cons, List.map_nil, PV.rens, PV.ren, if_true, if_false, Bool.false_eq_true, reduceIte, Nat.reduceAdd, Nat.reduceSub, Nat.reduceMul, Nat.reduceEqDiff, Nat.reduceLeDiff, Int.reduceLE, Int.reduceLT, Int.reduceEq, Int.reduceToNat, Int.reduceAdd, Int.reduceSub, Int.reduceNeg, decide_true, decide_false, Bool.not_true, Bool.not_false, Bool.true_and, Bool.false_and, Bool.and_true, Bool.and_false, Bool.or_true, Bool.true_or, Bool.or_false, Bool.false_or, and_self, and_true, true_and, Nat.le_refl, Nat.zero_add, Nat.mul_one, Nat.one_ne_zero, Nat.zero_le, highP, lowP, Option.map_some, Option.map_none, List.drop_zero, List.take_zero, List.length_cons, List.length_nil, List.nil_append, List.append_nil, List.cons_append, fillP, PV.cells?, PV.one, PV.cleans, PV.clean, PV.of?, List.all_cons, List.all_nil, List.take_succ_cons, List.drop_succ_cons, Bool.and_self, Int.natCast_nonneg, Int.toNat_natCast, Int.toNat_zero, Tk.ren, PV.of?, evL_loop, List.getElem?_cons_zero, List.getElem?_cons_succ]
  rw [lw]
  simp only [q6_5, q6_7, evL_op, evL_sel, evL_nx, evL_exit, evL_ret, evL_join, evL_block, evL_cond, evK_some, evJ_nx, evJ_rt, evJ_ex, evB_nx, evB_rt, evB_ex, evC2_bool, evS_and, evS_or, evS_tf, evS_ft, ev_t, ev_s, ev_c, evalOp, bin_add, bin_sub, bin_mul, bin_eql, bin_neq, bin_lss, bin_leq, bin_gtr, bin_geq, sbin_eql, sbin_neq, b8, List.map_cons, List.map_nil, PV.rens, PV.ren, if_true, if_false, Bool.false_eq_true, reduceIte, Nat.reduceAdd, Nat.reduceSub, Nat.reduceMul, Nat.reduceEqDiff, Nat.reduceLeDiff, Int.reduceLE, Int.reduceLT, Int.reduceEq, Int.reduceToNat, Int.reduceAdd, Int.reduceSub, Int.reduceNeg, decide_true, decide_false, Bool.not_true, Bool.not_false, Bool.true_and, Bool.false_and, Bool.and_true, Bool.and_false, Bool.or_true, Bool.true_or, Bool.or_false, Bool.false_or, and_self, and_true, true_and, Nat.le_refl, Nat.zero_add, Nat.mul_one, Nat.one_ne_zero, Nat.zero_le, highP, lowP, Option.map_some, Option.map_none, List.drop_zero, List.take_zero, List.length_cons, List.length_nil, List.nil_append, List.append_nil, List.cons_append, fillP, PV.cells?, PV.one, PV.cleans, PV.clean, PV.of?, List.all_cons, List.all_nil, List.take_succ_cons, List.drop_succ_cons, Bool.and_self, Int.natCast_nonneg, Int.toNat_natCast, Int.toNat_zero, w2]
/-- A round: a window goes, and is answered. -/
theorem stepA (N : Int) (l : List UInt8) (hN : 1 ≤ N ∧ N ≤ 65535) (hl : 1 ≤ l.length ∧ l.length ≤ 2000) (c a w : Int) (hw : 0 ≤ w ∧ w ≤ 3) (hc : c = cnt l.length) (h0 : 0 ≤ a) (h1 : a < c) (i : Int) (hi0 : 0 ≤ i) (hi : i < c + 3) (k0 : Nat) (hk : 12 ≤ k0) : ∃ (x : Snd) (b v : Int),
    a < b ∧ b ≤ c ∧ 0 ≤ v ∧ v ≤ 3 ∧ (b = c → v = 0) ∧
    evL TS k0 q6_8 (envW N l c a 2 (upto l a) i) [cellsW (goS N l a a w), .dead, .tok] = some (.nx, envW N l c b 5 (upto l b) (i + 1), [cellsW (goS N l b b v), .dead, .dead, cellsW x, .dead, .tok]) := by
  have hc0 : 1 ≤ c ∧ c ≤ 200 := by rw [hc]; unfold cnt; omega
  have w1 : IntKind.i64.wrap (c + 3) = c + 3 := wr (by omega) (by omega)
  have w2 : IntKind.i64.wrap (i + 1) = i + 1 := wr (by omega) (by omega)
  obtain ⟨m, hm⟩ : ∃ m : Nat, a + (m : Int) = mn (a + 7) c := ⟨(mn (a + 7) c - a).toNat, by unfold mn; split <;> omega⟩
  have hm0 : 0 < m ∧ m ≤ 7 ∧ a + m ≤ c := by unfold mn at hm; split at hm <;> omega
  have ht : (goS N l a a w).top = a + m := by rw [hm, hc]; rfl
  have hlt : a < (goS N l a a w).top := by omega
  have e1 : (goS N l a a w).tick = goS N l a (a + m) 3 := by
    unfold Snd.tick
    rw [if_neg Bool.false_ne_true, if_pos ⟨rfl, hlt⟩, ht]
  have e2 : (goS N l a a w).out = chunks (goS N l a a w) a m := by
    unfold Snd.out
    rw [if_neg Bool.false_ne_true, if_pos ⟨rfl, hlt⟩, ht, show (a + (m : Int) - (goS N l a a w).X).toNat = m by show (a + (m : Int) - a).toNat = m; omega]
  have c4 : TS 11 [sndP N l true a a w false] [] = _ := T_Tick (goS N l a a w) (goS_ok hN hl h0 (Int.le_refl _) (by omega) (by omega) hw)
  rw [e1, e2, outPV_chunks _ _ _ hm0.1] at c4
  have ea : a + ((0 : Nat) : Int) = a := by omega
  have o0 : ((0 : Nat) : Int) = 0 := rfl
  have lp := loop_fr N l hN hl a h0 m (by omega) hm0.2.1 c i (goS N l a (a + m) 3) (goS N l a a w) rfl rfl k0 m 0 k0 (by omega) (by omega)
    [.int .i64 N, sl8 l, .ptr 0 0, .int .i64 c, .int .i64 a, got8 2 (upto l a), .int .i64 i, .sl .no 5 m ((chunks (goS N l a a w) a m).flatMap Frm.cells), .int .i64 0] [cellsW (goS N l a (a + m) 3), .dead, .tok, cellsW (goS N l a (a + m) 3)]
    (by rw [ea, o0]; exact headF0 ..)
  obtain ⟨v, hv, lw⟩ : ∃ v, (0 ≤ v ∧ v ≤ 3 ∧ (a + m = c → v = 0)) ∧ loopL 5 (evL TS k0 q6_4) k0 [.int .i64 N, sl8 l, .ptr 0 0, .int .i64 c, .int .i64 (a + m), got8 4 (upto l (a + m)), .int .i64 i] [cellsW (goS N l (a + m) (a + m) 3), .dead, .dead, cellsW (goS N l a (a + m) 3), .tok] = some (.ex 5, [.int .i64 N, sl8 l, .ptr 0 0, .int .i64 c, .int .i64 (a + m), got8 5 (upto l (a + m)), .int .i64 i], [cellsW (goS N l (a + m) (a + m) v), .dead, .dead, cellsW (goS N l a (a + m) 3), .dead, .tok]) := by
    by_cases hb : a + m = c
    · refine ⟨0, ⟨Int.le_refl _, by decide, fun _ => rfl⟩, ?_⟩
      have := loop_wait N l hN hl (a + m) (by omega) (upto l (a + m)) i (goS N l a (a + m) 3) k0 3 k0 (by decide) (by omega) [.int .i64 N, sl8 l, .ptr 0 0, .int .i64 (cnt l.length), .int .i64 (a + m), got8 4 (upto l (a + m)), .int .i64 i] [cellsW (goS N l (a + m) (a + m) 3), .dead, .dead, cellsW (goS N l a (a + m) 3), .tok] (headV0 ..)
      rw [← hc] at this
      exact this
    · refine ⟨3, ⟨by decide, by decide, fun h => absurd h hb⟩, ?_⟩
      obtain ⟨kk, rfl⟩ : ∃ kk, k0 = kk + 1 := ⟨k0 - 1, by omega⟩
      rw [loopL_succ, headV0]
      simp only [q6_4, evL_op, evL_sel, evL_nx, evL_exit, evL_ret, evL_join, evL_block, evL_cond, evK_some, evJ_nx, evJ_rt, evJ_ex, evB_nx, evB_rt, evB_ex, evC2_bool, evS_and, evS_or, evS_tf, evS_ft, ev_t, ev_s, ev_c, evalOp, bin_add, bin_sub, bin_mul, bin_eql, bin_neq, bin_lss, bin_leq, bin_gtr, bin_geq, sbin_eql, sbin_neq, b8, List.map_cons, List.map_nil, PV.rens, PV.ren, if_true, if_false, Bool.false_eq_true, reduceIte, Nat.reduceAdd, Nat.reduceSub, Nat.reduceMul, Nat.reduceEqDiff, Nat.reduceLeDiff, Int.reduceLE, Int.reduceLT, Int.reduceEq, Int.reduceToNat, Int.reduceAdd, Int.reduceSub, Int.reduceNeg, decide_true, decide_false, Bool.not_true, Bool.not_false, Bool.true_and, Bool.false_and, Bool.and_true, Bool.and_false, Bool.or_true, Bool.true_or, Bool.or_false, Bool.false_or, and_self, and_true, true_and, Nat.le_refl, Nat.zero_add, Nat.mul_one, Nat.one_ne_zero, Nat.zero_le, highP, lowP, Option.map_some, Option.map_none, List.drop_zero, List.take_zero, List.length_cons, List.length_nil, List.nil_append, List.append_nil, List.cons_append, fillP, PV.cells?, PV.one, PV.cleans, PV.clean, PV.of?, List.all_cons, List.all_nil, List.take_succ_cons, List.drop_succ_cons, Bool.and_self, Int.natCast_nonneg, Int.toNat_natCast, Int.toNat_zero, PV.of?, hb, List.getElem?_cons_zero]
  refine ⟨goS N l a (a + m) 3, a + m, v, by omega, hm0.2.2, hv.1, hv.2.1, hv.2.2, ?_⟩
  simp only [q6_8, evL_op, evL_sel, evL_nx, evL_exit, evL_ret, evL_join, evL_block, evL_cond, evK_some, evJ_nx, evJ_rt, evJ_ex, evB_nx, evB_rt, evB_ex, evC2_bool, evS_and, evS_or, evS_tf, evS_ft, ev_t, ev_s, ev_c, evalOp, bin_add, bin_sub, bin_mul, bin_eql, bin_neq, bin_lss, bin_leq, bin_gtr, bin_geq, sbin_eql, sbin_neq, b8, List.map_cons, List.map_nil, PV.rens, PV.ren, if_true, if_false, Bool.false_eq_true, reduceIte, Nat.reduceAdd, Nat.reduceSub, Nat.reduceMul, Nat.reduceEqDiff, Nat.reduceLeDiff, Int.reduceLE, Int.reduceLT, Int.reduceEq, Int.reduceToNat, Int.reduceAdd, Int.reduceSub, Int.reduceNeg, decide_true, decide_false, Bool.not_true, Bool.not_false, Bool.true_and, Bool.false_and, Bool.and_true, Bool.and_false, Bool.or_true, Bool.true_or, Bool.or_false, Bool.false_or, and_self, and_true, true_and, Nat.le_refl, Nat.zero_add, Nat.mul_one, Nat.one_ne_zero, Nat.zero_le, highP, lowP, Option.map_some, Option.map_none, List.drop_zero, List.take_zero, List.length_cons, List.length_nil, List.nil_append, List.append_nil, List.cons_append, fillP, PV.cells?, PV.one, PV.cleans, PV.clean, PV.of?, List.all_cons, List.all_nil, List.take_succ_cons, List.drop_succ_cons, Bool.and_self, Int.natCast_nonneg, Int.toNat_natCast, Int.toNat_zero, Tk.ren, PV.of?, w1, hi, c4, evL_loop, List.getElem?_cons_zero, List.getElem?_cons_succ, List.set_cons_zero, List.set_cons_succ]
  rw [lp]
  simp only [q6_6, evL_op, evL_sel, evL_nx, evL_exit, evL_ret, evL_join, evL_block, evL_cond, evK_some, evJ_nx, evJ_rt, evJ_ex, evB_nx, evB_rt, evB_ex, evC2_bool, evS_and, evS_or, evS_tf, evS_ft, ev_t, ev_s, ev_c, evalOp, bin_add, bin_sub, bin_mul, bin_eql, bin_neq, bin_lss, bin_leq, bin_gtr, bin_geq, sbin_eql, sbin_neq, b8, List.map_cons, List.map_nil, PV.rens, PV.ren, if_true, if_false, Bool.false_eq_true, reduceIte, Nat.reduceAdd, Nat.reduceSub, Nat.reduceMul, Nat.reduceEqDiff, Nat.reduceLeDiff, Int.reduceLE, Int.reduceLT, Int.reduceEq, Int.reduceToNat, Int.reduceAdd, Int.reduceSub, Int.reduceNeg, decide_true, decide_false, Bool.not_true, Bool.not_false, Bool.true_and, Bool.false_and, Bool.and_true, Bool.and_false, Bool.or_true, Bool.true_or, Bool.or_false, Bool.false_or, and_self, and_true, true_and, Nat.le_refl, Nat.zero_add, Nat.mul_one, Nat.one_ne_zero, Nat.zero_le, highP, lowP, Option.map_some, Option.map_none, List.drop_zero, List.take_zero, List.length_cons, List.length_nil, List.nil_append, List.append_nil, List.cons_append, fillP, PV.cells?, PV.one, PV.cleans, PV.clean, PV.of?, List.all_cons, List.all_nil, List.take_succ_cons, List.drop_succ_cons, Bool.and_self, Int.natCast_nonneg, Int.toNat_natCast, Int.toNat_zero, Tk.ren, PV.of?, evL_loop, List.getElem?_cons_zero, List.getElem?_cons_succ]
  rw [lw]
  simp only [q6_5, q6_7, evL_op, evL_sel, evL_nx, evL_exit, evL_ret, evL_join, evL_block, evL_cond, evK_some, evJ_nx, evJ_rt, evJ_ex, evB_nx, evB_rt, evB_ex, evC2_bool, evS_and, evS_or, evS_tf, evS_ft, ev_t, ev_s, ev_c, evalOp, bin_add, bin_sub, bin_mul, bin_eql, bin_neq, bin_lss, bin_leq, bin_gtr, bin_geq, sbin_eql, sbin_neq, b8, List.map_cons, List.map_nil, PV.rens, PV.ren, if_true, if_false, Bool.false_eq_true, reduceIte, Nat.reduceAdd, Nat.reduceSub, Nat.reduceMul, Nat.reduceEqDiff, Nat.reduceLeDiff, Int.reduceLE, Int.reduceLT, Int.reduceEq, Int.reduceToNat, Int.reduceAdd, Int.reduceSub, Int.reduceNeg, decide_true, decide_false, Bool.not_true, Bool.not_false, Bool.true_and, Bool.false_and, Bool.and_true, Bool.and_false, Bool.or_true, Bool.true_or, Bool.or_false, Bool.false_or, and_self, and_true, true_and, Nat.le_refl, Nat.zero_add, Nat.mul_one, Nat.one_ne_zero, Nat.zero_le, highP, lowP, Option.map_some, Option.map_none, List.drop_zero, List.take_zero, List.length_cons, List.length_nil, List.nil_append, List.append_nil, List.cons_append, fillP, PV.cells?, PV.one, PV.cleans, PV.clean, PV.of?, List.all_cons, List.all_nil, List.take_succ_cons, List.drop_succ_cons, Bool.and_self, Int.natCast_nonneg, Int.toNat_natCast, Int.toNat_zero, w2]
theorem upto_all {l : List UInt8} : upto l (cnt l.length) = l := by
  unfold upto
  exact List.take_of_length_le (by unfold cnt; omega)
theorem loopA (N : Int) (l : List UInt8) (hN : 1 ≤ N ∧ N ≤ 65535) (hl : 1 ≤ l.length ∧ l.length ≤ 2000) (c : Int) (hc : c = cnt l.length) (k0 : Nat) (hk : 12 ≤ k0) : ∀ (j kk : Nat) (a w i : Int), 0 ≤ w ∧ w ≤ 3 → 0 ≤ a → a + j = c → (a = c → w = 0) → 0 ≤ i → i ≤ a + 1 → j + 1 < kk → ∀ env H,
    headS 2 env H = (envW N l c a 2 (upto l a) i, [cellsW (goS N l a a w), .dead, .tok]) → ∃ H', loopL 2 (evL TS k0 q6_8) kk env H = some (.rt, [.bool true], H') := by
  intro j
  induction j using Nat.strongRecOn with
  | ind j ih =>
    intro kk a w i hw h0 haj hac hi0 hi1 hkk env H hh
    obtain ⟨kk, rfl⟩ : ∃ k', kk = k' + 1 := ⟨kk - 1, by omega⟩
    by_cases h : a = c
    · have hw0 := hac h
      subst hw0
      subst h
      obtain ⟨H', hB⟩ := stepB N l hN hl a i hc (by omega) k0 hk
      rw [hc, upto_all, ← hc] at hh
      refine ⟨H', ?_⟩
      rw [loopL_succ, hh]
      dsimp only
      rw [hB]
    · obtain ⟨x, b, v, h1, h2, h3, h4, h5, hA⟩ := stepA N l hN hl c a w hw hc h0 (by omega) i hi0 (by omega) k0 hk
      obtain ⟨j', hj'⟩ : ∃ j' : Nat, b + (j' : Int) = c := ⟨(c - b).toNat, by omega⟩
      obtain ⟨H', hr⟩ := ih j' (by omega) kk b v (i + 1) ⟨h3, h4⟩ (by omega) hj' h5 (by omega) (by omega) (by omega) (envW N l c b 5 (upto l b) (i + 1)) [cellsW (goS N l b b v), .dead, .dead, cellsW x, .dead, .tok] (headW1 ..)
      refine ⟨H', ?_⟩
      rw [loopL_succ, hh]
      dsimp only
      rw [hA]
      exact hr
theorem u64_pos' (a : Int) : 0 ≤ IntKind.u64.wrap a ∧ IntKind.u64.wrap a ≤ 18446744073709551615 := by
  simp [IntKind.wrap, IntKind.bits, IntKind.signed]; omega
theorem lawSenderWhole (n : Int) (hn : (Lit.int .i64 n).wf = true) (l : List UInt8) (hl : l.length ≤ room ∧ ∀ y ∈ l, True) (f : Int) (hf : (Lit.int .i64 f).wf = true) : evT lt ov 6 [.int .i64 n, sl8 l, .int .i64 f] [] = some (.bool true, []) := by
  have fin : ∀ {k : Nat} {H : Hp}, evL TS k q6 [.int .i64 n, sl8 l, .int .i64 f] [] = some (.rt, [.bool true], H) → TS 6 [.int .i64 n, sl8 l, .int .i64 f] [] = some (.bool true, []) := fun {k H} h =>
    evT_of (k := k) (F := l6) (H' := H) (e := [.bool true]) (l := [.bool true]) rfl rfl rfl h rfl rfl
  by_cases h1 : (2000 : Int) < l.length
  · refine fin (k := 0) (H := []) ?_
    simp only [q6, evL_op, evL_sel, evL_nx, evL_exit, evL_ret, evL_join, evL_block, evL_cond, evK_some, evJ_nx, evJ_rt, evJ_ex, evB_nx, evB_rt, evB_ex, evC2_bool, evS_and, evS_or, evS_tf, evS_ft, ev_t, ev_s, ev_c, evalOp, bin_add, bin_sub, bin_mul, bin_eql, bin_neq, bin_lss, bin_leq, bin_gtr, bin_geq, sbin_eql, sbin_neq, b8, List.map_cons, List.map_nil, PV.rens, PV.ren, if_true, if_false, Bool.false_eq_true, reduceIte, Nat.reduceAdd, Nat.reduceSub, Nat.reduceMul, Nat.reduceEqDiff, Nat.reduceLeDiff, Int.reduceLE, Int.reduceLT, Int.reduceEq, Int.reduceToNat, Int.reduceAdd, Int.reduceSub, Int.reduceNeg, decide_true, decide_false, Bool.not_true, Bool.not_false, Bool.true_and, Bool.false_and, Bool.and_true, Bool.and_false, Bool.or_true, Bool.true_or, Bool.or_false, Bool.false_or, and_self, and_true, true_and, Nat.le_refl, Nat.zero_add, Nat.mul_one, Nat.one_ne_zero, Nat.zero_le, highP, lowP, Option.map_some, Option.map_none, List.drop_zero, List.take_zero, List.length_cons, List.length_nil, List.nil_append, List.append_nil, List.cons_append, fillP, PV.cells?, PV.one, PV.cleans, PV.clean, PV.of?, List.all_cons, List.all_nil, List.take_succ_cons, List.drop_succ_cons, Bool.and_self, Int.natCast_nonneg, Int.toNat_natCast, Int.toNat_zero, h1]
  have u1 := u64_pos' n
  have u2 := u64_pos' f
  generalize hM : (IntKind.u64.wrap n).tmod 65535 = M
  rw [Int.tmod_eq_emod_of_nonneg u1.1] at hM
  have u5 : binP .rem (.int .u64 (IntKind.u64.wrap n)) (.int .u64 65535) = some (.int .u64 M) := by rw [bin_rem (by decide), Int.tmod_eq_emod_of_nonneg u1.1, hM]
  have w1 : IntKind.i64.wrap M = M := wr (by omega) (by omega)
  have w2 : IntKind.i64.wrap (1 + M) = 1 + M := wr (by omega) (by omega)
  have hN : 1 ≤ 1 + M ∧ 1 + M ≤ 65535 := by omega
  have c1 := T_New (1 + M) l
  by_cases h2 : l = []
  · subst h2
    have hr : ¬ RS (1 + M) (([] : List UInt8).length : Int) false 0 0 0 := fun h => by have := h.2.1.1; simp at this
    rw [if_neg hr, show okE (RS (1 + M) (([] : List UInt8).length : Int) false 0 0 0) = 1 from if_neg hr] at c1
    have c1' : TS 17 [.int .i64 (1 + M), .sl .no 1 0 []] [] = some (.tup [.agg [.int .i64 0, .sl .nil 0 0 [], .bool false, .int .i64 0, .int .i64 0, .int .i64 0, .bool false], .int .i64 1], []) := c1
    have o0 : ((0 : Nat) : Int) = 0 := rfl
    refine fin (k := 0) (H := [.cells [.int .i64 0, .sl .nil 0 0 [], .bool false, .int .i64 0, .int .i64 0, .int .i64 0, .bool false]]) ?_
    simp only [q6, evL_op, evL_sel, evL_nx, evL_exit, evL_ret, evL_join, evL_block, evL_cond, evK_some, evJ_nx, evJ_rt, evJ_ex, evB_nx, evB_rt, evB_ex, evC2_bool, evS_and, evS_or, evS_tf, evS_ft, ev_t, ev_s, ev_c, evalOp, bin_add, bin_sub, bin_mul, bin_eql, bin_neq, bin_lss, bin_leq, bin_gtr, bin_geq, sbin_eql, sbin_neq, b8, List.map_cons, List.map_nil, PV.rens, PV.ren, if_true, if_false, Bool.false_eq_true, reduceIte, Nat.reduceAdd, Nat.reduceSub, Nat.reduceMul, Nat.reduceEqDiff, Nat.reduceLeDiff, Int.reduceLE, Int.reduceLT, Int.reduceEq, Int.reduceToNat, Int.reduceAdd, Int.reduceSub, Int.reduceNeg, decide_true, decide_false, Bool.not_true, Bool.not_false, Bool.true_and, Bool.false_and, Bool.and_true, Bool.and_false, Bool.or_true, Bool.true_or, Bool.or_false, Bool.false_or, and_self, and_true, true_and, Nat.le_refl, Nat.zero_add, Nat.mul_one, Nat.one_ne_zero, Nat.zero_le, highP, lowP, Option.map_some, Option.map_none, List.drop_zero, List.take_zero, List.length_cons, List.length_nil, List.nil_append, List.append_nil, List.cons_append, fillP, PV.cells?, PV.one, PV.cleans, PV.clean, PV.of?, List.all_cons, List.all_nil, List.take_succ_cons, List.drop_succ_cons, Bool.and_self, Int.natCast_nonneg, Int.toNat_natCast, Int.toNat_zero, Tk.ren, PV.of?, o0, u5, w1, w2, c1', T_wakes, List.getElem?_cons_zero, List.getElem?_cons_succ, List.set_cons_zero, List.set_cons_succ]
  · have hl1 : 1 ≤ l.length ∧ l.length ≤ 2000 := by
      have : 0 < l.length := List.length_pos_iff.2 h2
      omega
    have hc : 1 ≤ cnt l.length ∧ cnt l.length ≤ 200 := by unfold cnt; omega
    have hr : RS (1 + M) l.length false 0 0 0 := ⟨hN, by omega, ⟨(by decide : (0 : Int) ≤ 0), (by decide : (0 : Int) ≤ 3)⟩, .inr ⟨rfl, rfl⟩, ⟨Int.le_refl _, by omega⟩, Int.le_refl _, le_mn.2 ⟨by decide, by omega⟩⟩
    rw [if_pos hr, show okE (RS (1 + M) l.length false 0 0 0) = 0 from if_pos hr] at c1
    have c2 : TS 19 [sndP (1 + M) l false 0 0 0 false] [] = some (.int .i64 (cnt l.length), []) := T_Pieces ⟨1 + M, l, false, 0, 0, 0, false⟩ hr
    generalize hA : (IntKind.u64.wrap f).tmod (cnt l.length) = a
    rw [Int.tmod_eq_emod_of_nonneg u2.1] at hA
    have ha0 : 0 ≤ a := by rw [← hA]; exact Int.emod_nonneg _ (by omega)
    have ha1 : a < cnt l.length := by have := Int.emod_lt_of_pos (IntKind.u64.wrap f) (show 0 < cnt l.length by omega); omega
    have u6 : binP .rem (.int .u64 (IntKind.u64.wrap f)) (.int .u64 (cnt l.length)) = some (.int .u64 a) := by rw [bin_rem (by omega), Int.tmod_eq_emod_of_nonneg u2.1, hA]
    have w3 : IntKind.u64.wrap (cnt l.length) = cnt l.length := IntWalk.u64_in _ (by omega)
    have w4 : IntKind.i64.wrap a = a := wr (by omega) (by omega)
    have w5 : IntKind.i64.wrap (a * 48) = a * 48 := wr (by omega) (by omega)
    have h5 : ¬ cnt l.length < 1 := by omega
    have h6 : a * 48 ≤ l.length := by unfold cnt at ha1; omega
    have h7 : 0 ≤ a * 48 := by omega
    have h8 : (a * 48).toNat ≤ roomMax := by unfold roomMax; omega
    have hg1 : (a * 48).toNat = (upto l a).length := by unfold upto; rw [List.length_take]; omega
    have hg3 : (upto l a).length ≤ roomMax := by rw [← hg1]; exact h8
    have hg2 : (l.map b8).take (upto l a).length = (upto l a).map b8 := by rw [← hg1]; unfold upto; rw [List.map_take]
    obtain ⟨x, hS⟩ := stepA0 (1 + M) l hN hl1 (cnt l.length) a rfl ha0 ha1 300 (by decide)
    obtain ⟨j, hj⟩ : ∃ j : Nat, a + (j : Int) = cnt l.length := ⟨(cnt l.length - a).toNat, by omega⟩
    obtain ⟨H', hL⟩ := loopA (1 + M) l hN hl1 (cnt l.length) rfl 300 (by decide) j 299 a 0 1 ⟨Int.le_refl _, by decide⟩ ha0 hj (fun _ => rfl) (by decide) (by omega) (by omega) (envW (1 + M) l (cnt l.length) a 5 (upto l a) 1) [cellsW (goS (1 + M) l a a 0), .dead, .dead, cellsW x, .dead, .tok] (headW1 ..)
    have hh := headW0 (1 + M) (cnt l.length) a 0 (l.map b8) l.length 1 (upto l a).length ((upto l a).map b8) (1 + M) 0 0 0 l false false
    have lp : loopL 2 (evL TS 300 q6_8) 300 (envW (1 + M) l (cnt l.length) a 1 (upto l a) 0) [.cells (sndC (1 + M) l false 0 0 0 false), .tok] = some (.rt, [.bool true], H') := by
      rw [loopL_succ, hh]
      dsimp only
      rw [hS]
      exact hL
    refine fin (k := 300) (H := H') ?_
    simp only [q6, evL_op, evL_sel, evL_nx, evL_exit, evL_ret, evL_join, evL_block, evL_cond, evK_some, evJ_nx, evJ_rt, evJ_ex, evB_nx, evB_rt, evB_ex, evC2_bool, evS_and, evS_or, evS_tf, evS_ft, ev_t, ev_s, ev_c, evalOp, bin_add, bin_sub, bin_mul, bin_eql, bin_neq, bin_lss, bin_leq, bin_gtr, bin_geq, sbin_eql, sbin_neq, b8, List.map_cons, List.map_nil, PV.rens, PV.ren, if_true, if_false, Bool.false_eq_true, reduceIte, Nat.reduceAdd, Nat.reduceSub, Nat.reduceMul, Nat.reduceEqDiff, Nat.reduceLeDiff, Int.reduceLE, Int.reduceLT, Int.reduceEq, Int.reduceToNat, Int.reduceAdd, Int.reduceSub, Int.reduceNeg, decide_true, decide_false, Bool.not_true, Bool.not_false, Bool.true_and, Bool.false_and, Bool.and_true, Bool.and_false, Bool.or_true, Bool.true_or, Bool.or_false, Bool.false_or, and_self, and_true, true_and, Nat.le_refl, Nat.zero_add, Nat.mul_one, Nat.one_ne_zero, Nat.zero_le, highP, lowP, Option.map_some, Option.map_none, List.drop_zero, List.take_zero, List.length_cons, List.length_nil, List.nil_append, List.append_nil, List.cons_append, fillP, PV.cells?, PV.one, PV.cleans, PV.clean, PV.of?, List.all_cons, List.all_nil, List.take_succ_cons, List.drop_succ_cons, Bool.and_self, Int.natCast_nonneg, Int.toNat_natCast, Int.toNat_zero, Tk.ren, PV.of?, h1, u5, u6, w1, w2, w3, w4, w5, c1, c2, h5, h6, h7, h8, hg1, hg2, hg3, Nat.sub_zero, tailP, Nat.zero_lt_one, or_true, true_or, evL_loop, List.getElem?_cons_zero, List.getElem?_cons_succ, List.set_cons_zero, List.set_cons_succ]
    rw [lp]
    simp only [evL_op, evL_sel, evL_nx, evL_exit, evL_ret, evL_join, evL_block, evL_cond, evK_some, evJ_nx, evJ_rt, evJ_ex, evB_nx, evB_rt, evB_ex, evC2_bool, evS_and, evS_or, evS_tf, evS_ft, ev_t, ev_s, ev_c, evalOp, bin_add, bin_sub, bin_mul, bin_eql, bin_neq, bin_lss, bin_leq, bin_gtr, bin_geq, sbin_eql, sbin_neq, b8, List.map_cons, List.map_nil, PV.rens, PV.ren, if_true, if_false, Bool.false_eq_true, reduceIte, Nat.reduceAdd, Nat.reduceSub, Nat.reduceMul, Nat.reduceEqDiff, Nat.reduceLeDiff, Int.reduceLE, Int.reduceLT, Int.reduceEq, Int.reduceToNat, Int.reduceAdd, Int.reduceSub, Int.reduceNeg, decide_true, decide_false, Bool.not_true, Bool.not_false, Bool.true_and, Bool.false_and, Bool.and_true, Bool.and_false, Bool.or_true, Bool.true_or, Bool.or_false, Bool.false_or, and_self, and_true, true_and, Nat.le_refl, Nat.zero_add, Nat.mul_one, Nat.one_ne_zero, Nat.zero_le, highP, lowP, Option.map_some, Option.map_none, List.drop_zero, List.take_zero, List.length_cons, List.length_nil, List.nil_append, List.append_nil, List.cons_append, fillP, PV.cells?, PV.one, PV.cleans, PV.clean, PV.of?, List.all_cons, List.all_nil, List.take_succ_cons, List.drop_succ_cons, Bool.and_self, Int.natCast_nonneg, Int.toNat_natCast, Int.toNat_zero]
end Go.Proofs.Ytlbajfhioebphaa.Tab
