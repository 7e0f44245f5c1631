/- SenderStays: it is true. -/
import Derived.Test.YtlbajfhioebphaaPureSenderReady
namespace Go.Proofs.Ytlbajfhioebphaa.Tab
set_option linter.all false
open Go Go.RowKit Go.Proofs.Ytlbajfhioebphaa.Ev
theorem get5 {α : Type} (mk : α → List PV) (h : ∀ a, (mk a).length = 5) : ∀ (l : List α) (i : Nat) (hi : i < l.length), ((l.flatMap mk).drop (i * 5)).take 5 = mk l[i]
  | [], i, hi => absurd hi (by simp)
  | a :: r, 0, hi => by
    rw [Nat.zero_mul, List.drop_zero, List.flatMap_cons, List.take_append_of_le_length (by rw [h]; omega), List.take_of_length_le (by rw [h]; omega)]; rfl
  | a :: r, i + 1, hi => by
    rw [List.flatMap_cons, show (i + 1) * 5 = (mk a).length + i * 5 by rw [h]; omega, List.drop_append, List.drop_of_length_le (by omega), List.nil_append, show (mk a).length + i * 5 - (mk a).length = i * 5 by omega]
    exact get5 mk h r i (by simpa using hi)
/-! ### What stays -/
theorem w03 : (0 : Int) ≤ 3 ∧ (3 : Int) ≤ 3 := by decide
theorem w00 : (0 : Int) ≤ 0 ∧ (0 : Int) ≤ 3 := by decide
theorem tick_stays (x : Snd) (h : x.ok) : x.tick.ok ∧ x.tick.N = x.N ∧ x.tick.l = x.l := by
  obtain ⟨h1, h2, h3, h4, h5, h6⟩ := h
  have hc := cntK (s := x) ⟨h1, h2, h3, h4, h5, h6⟩
  have ht : x.B ≤ x.top := by have := h6.1; have := h6.2; exact Int.le_trans h6.1 h6.2
  unfold Snd.tick
  split
  · exact ⟨⟨h1, h2, h3, h4, h5, h6⟩, rfl, rfl⟩
  split
  · rename_i h7
    exact ⟨⟨h1, h2, w03, .inl h7.1, h5, ht, Int.le_refl _⟩, rfl, rfl⟩
  split
  · rename_i h7
    exact ⟨⟨h1, h2, ⟨by dsimp only; omega, by dsimp only; omega⟩, h4, h5, h6⟩, rfl, rfl⟩
  split
  · exact ⟨⟨h1, h2, w03, .inr ⟨rfl, rfl⟩, ⟨Int.le_refl _, by dsimp only; exact Int.le_trans h5.1 h5.2⟩, Int.le_refl _, le_mn.2 ⟨by dsimp only; omega, by dsimp only; exact Int.le_trans h5.1 h5.2⟩⟩, rfl, rfl⟩
  · exact ⟨⟨h1, h2, w03, h4, h5, h6⟩, rfl, rfl⟩
theorem ackAt_in (q : Int) : ∀ (n : Nat) (a b : Int), ackAt q n a = some b → a ≤ b ∧ b < a + n
  | 0, a, b, h => by cases h
  | n + 1, a, b, h => by
    unfold ackAt at h
    split at h
    · cases h; omega
    · have := ackAt_in q n (a + 1) b h; omega
theorem hear_stays (x z : Snd) (h : x.ok) {K N O S n : Int} (hz : x.hear K N O S n = .ok z) : z.ok ∧ z.N = x.N ∧ z.l = x.l ∧ x.O = false := by
  obtain ⟨h1, h2, h3, h4, h5, h6⟩ := h
  unfold Snd.hear at hz
  split at hz
  · cases hz
  rename_i hrf
  have hrf := Classical.not_not.1 hrf
  split at hz
  · cases hz
  rename_i hno
  have hO : x.O = false := by cases hO : x.O with | false => rfl | true => exact absurd (.inr hO) hno
  split at hz
  · split at hz
    · rename_i hK hp
      cases hz
      have hO0 : 0 ≤ O ∧ O ≤ 5000 := by unfold RF at hrf; omega
      have e1 : 0 ≤ Tab.cnt O ∧ Tab.cnt O ≤ Tab.cnt x.l.length := by have := hp.1; unfold Tab.cnt; omega
      exact ⟨⟨h1, h2, w00, .inl rfl, e1, Int.le_refl _, le_mn.2 ⟨by show Tab.cnt O ≤ Tab.cnt O + 7; omega, e1.2⟩⟩, rfl, rfl, hO⟩
    · cases hz
  split at hz
  · split at hz
    · rename_i b hb
      cases hz
      unfold Snd.ackTo at hb
      split at hb
      · rename_i hR
        have := ackAt_in _ _ _ _ hb
        have h7 := le_mn.1 h6.2
        exact ⟨⟨h1, h2, w03, .inl hR, ⟨by show 0 ≤ b; omega, by show b ≤ Tab.cnt x.l.length; omega⟩, by show b ≤ x.X; omega, le_mn.2 ⟨by show x.X ≤ b + 7; omega, h7.2⟩⟩, rfl, rfl, hO⟩
      · cases hb
    · cases hz
  split at hz
  · cases hz
    exact ⟨⟨h1, h2, h3, h4, h5, h6⟩, rfl, rfl, hO⟩
  · cases hz
/-! ### The frames that go -/
abbrev FrmV := Int × Int × Int × Int × List UInt8
abbrev FrmL (a : FrmV) : List PV := [.int .i64 a.1] ++ ([.int .i64 a.2.1] ++ ([.int .i64 a.2.2.1] ++ ([.int .i64 a.2.2.2.1] ++ [.sl .no 1 a.2.2.2.2.length (a.2.2.2.2.map b8)])))
abbrev cellsS (s : Snd) : Ob := .cells (sndC s.N s.l s.R s.B s.X s.W s.O)
theorem head_in1 (L : List PV) (n : Nat) (e : List PV) (i k : Int) (z m : Nat) (ds : List PV) (x y : Snd) : headS 2 [.sl .no 5 n L, .ep e 0, .ptr 0 0, .int .i64 i, .ptr 1 0, .sl .no z m ds, .int .i64 k] [cellsS x, cellsS y] = ([.sl .no 5 n L, .ep e 0, .ptr 0 0, .int .i64 i, .ptr 1 0, .sl .no z m ds, .int .i64 k], [cellsS x, cellsS y]) := rfl
theorem head_in0' (L : List PV) (n : Nat) (e : List PV) (i k N B X W N' B' X' W' : Int) (l l' : List UInt8) (R O R' O' : Bool) : headS 2 [.sl .no 5 n L, .ep e 0, .ptr 0 0, .int .i64 i, .ptr 1 0, .sl .nil 0 0 [], .int .i64 k] [.cells (sndC N l R B X W O), .cells (sndC N' l' R' B' X' W' O')] = ([.sl .no 5 n L, .ep e 0, .ptr 0 0, .int .i64 i, .ptr 1 0, .sl (.tok 2) 0 0 [], .int .i64 k], [.cells (sndC N l R B X W O), .cells (sndC N' l' R' B' X' W' O'), .tok]) := by kernel_rfl
theorem head_in0 (L : List PV) (n : Nat) (e : List PV) (i k : Int) (x y : Snd) : headS 2 [.sl .no 5 n L, .ep e 0, .ptr 0 0, .int .i64 i, .ptr 1 0, .sl .nil 0 0 [], .int .i64 k] [cellsS x, cellsS y] = ([.sl .no 5 n L, .ep e 0, .ptr 0 0, .int .i64 i, .ptr 1 0, .sl (.tok 2) 0 0 [], .int .i64 k], [cellsS x, cellsS y, .tok]) := head_in0' ..
theorem loop_none (s x y : Snd) (k0 kk : Nat) (L : List PV) (n : Nat) (i : Int) :
    loopL 2 (evL TS k0 q5_1) (kk + 1) [.sl .no 5 n L, .ep (sndC s.N s.l s.R s.B s.X s.W s.O) 0, .ptr 0 0, .int .i64 i, .ptr 1 0, .sl .nil 0 0 [], .int .i64 0] [cellsS x, cellsS y] =
      some (.ex 2, [.sl .no 5 n L, .ep (sndC s.N s.l s.R s.B s.X s.W s.O) 0, .ptr 0 0, .int .i64 i, .ptr 1 0], [cellsS x, cellsS y, .tok]) := by
  have o1 : ((0 : Nat) : Int) = 0 := rfl
  rw [loopL_succ, head_in0]
  simp only [q5_1, evL_op, evL_sel, evL_nx, evL_exit, evL_ret, evL_join, evL_block, evL_cond, evK_some, evJ_nx, evJ_rt, evJ_ex, evB_nx, evB_rt, evB_ex, evC2_bool, evS_and, evS_or, evS_tf, evS_ft, ev_t, ev_s, ev_c, evalOp, bin_add, bin_sub, bin_mul, bin_eql, bin_neq, bin_lss, bin_leq, bin_gtr, bin_geq, sbin_eql, sbin_neq, b8, List.map_cons, List.map_nil, PV.rens, PV.ren, if_true, if_false, Bool.false_eq_true, reduceIte, Nat.reduceAdd, Nat.reduceSub, Nat.reduceMul, Nat.reduceEqDiff, Nat.reduceLeDiff, Int.reduceLE, Int.reduceLT, Int.reduceEq, Int.reduceToNat, Int.reduceAdd, Int.reduceSub, Int.reduceNeg, decide_true, decide_false, Bool.not_true, Bool.not_false, Bool.true_and, Bool.false_and, Bool.and_true, Bool.and_false, Bool.or_true, Bool.true_or, Bool.or_false, Bool.false_or, and_self, and_true, true_and, Nat.le_refl, Nat.zero_add, Nat.mul_one, Nat.one_ne_zero, Nat.zero_le, highP, lowP, Option.map_some, Option.map_none, List.drop_zero, List.take_zero, List.length_cons, List.length_nil, List.nil_append, List.append_nil, List.cons_append, fillP, PV.cells?, PV.one, PV.cleans, PV.clean, PV.of?, List.all_cons, List.all_nil, List.take_succ_cons, List.drop_succ_cons, Bool.and_self, Int.natCast_nonneg, Int.toNat_natCast, Int.toNat_zero, o1]
section
variable (s x y : Snd) (hx : x.l = s.l) (hN : x.N = s.N) (hO : x.O = false) (hs : s.ok)
include hx hN hO hs
theorem body_go (P : Int) (m k : Nat) (hk : k < m) (hP : 0 ≤ P) (hm : P + m ≤ s.cnt) (k0 : Nat) (L : List PV) (n : Nat) (i : Int) :
    evL TS k0 q5_1 [.sl .no 5 n L, .ep (sndC s.N s.l s.R s.B s.X s.W s.O) 0, .ptr 0 0, .int .i64 i, .ptr 1 0, .sl .no 5 m ((chunks x P m).flatMap Frm.cells), .int .i64 k] [cellsS x, cellsS y] =
      some (.nx, [.sl .no 5 n L, .ep (sndC s.N s.l s.R s.B s.X s.W s.O) 0, .ptr 0 0, .int .i64 i, .ptr 1 0, .sl .no 5 m ((chunks x P m).flatMap Frm.cells), .int .i64 (k + 1 : Nat)], [cellsS x, cellsS y]) := by
  have hL : (1 : Int) ≤ s.l.length ∧ (s.l.length : Int) ≤ 5000 := hs.2.1
  have hn := hs.1
  have hl : s.l.length ≤ 6000 := by omega
  have hc : s.cnt ≤ 200 := by unfold Snd.cnt cnt; omega
  have hxc : x.cnt = s.cnt := by unfold Snd.cnt; rw [hx]
  have h1 : (k : Int) < m := by omega
  have h3 : (P + k) * 48 < s.l.length := by unfold Snd.cnt cnt at hm; omega
  have w1 : IntKind.i64.wrap ((k : Int) + 1) = ((k + 1 : Nat) : Int) := wr (by omega) (by omega)
  have g := get_chunk x P m k hk
  have hd := chunk_dpv (s := x) (i := P + k) (by omega) (by omega) (by rw [hx]; omega)
  have hp := chunk_len (s := x) (i := P + k) (by omega) (by omega) (by rw [hx]; omega)
  rw [hx] at hp
  have hp2 : ((chunkF x (P + k)).d.length : Int) ≤ 48 := by have := hp.1; unfold mn at this; split at this <;> omega
  have hb : (chunkF x (P + k)).cells = [.int .i64 3, .int .i64 s.N, .int .i64 ((P + k) * 48), .int .i64 ((P + k).tmod 8), sl8 (chunkF x (P + k)).d] := by
    unfold Frm.cells; rw [hd, ← hN]; rfl
  rw [hb] at g
  have hrf : RF 3 s.N ((P + k) * 48) ((P + k).tmod 8) (chunkF x (P + k)).d.length := by
    have : 0 ≤ (P + k).tmod 8 ∧ (P + k).tmod 8 ≤ 7 := by rw [Int.tmod_eq_emod_of_nonneg (by omega)]; omega
    unfold RF
    refine ⟨by omega, .inr (.inl ⟨rfl, ?_, ?_, ?_, ?_, ?_, ?_⟩)⟩ <;> omega
  have c0 := T_refFrame 3 s.N ((P + k) * 48) ((P + k).tmod 8) (slB (chunkF x (P + k)).d) (by omega)
  rw [decide_eq_true hrf] at c0
  have e1 : (P + k) * 48 + (chunkF x (P + k)).d.length = mn ((P + k) * 48 + 48) s.l.length := by omega
  have w2 : IntKind.i64.wrap (mn ((P + k) * 48 + 48) s.l.length) = mn ((P + k) * 48 + 48) s.l.length := wr (by omega) (by omega)
  have m1 : (P + k) * 48 ≤ mn ((P + k) * 48 + 48) s.l.length := by rw [le_mn]; omega
  have m2 : mn ((P + k) * 48 + 48) s.l.length ≤ s.l.length := by unfold mn; split <;> omega
  have m2' : ¬ (s.l.length : Int) < mn ((P + k) * 48 + 48) s.l.length := by omega
  have m3 : 0 ≤ mn ((P + k) * 48 + 48) s.l.length := by omega
  have m4 : 0 ≤ (P + k) * 48 := by omega
  have m5 : ((P + k) * 48).toNat ≤ (mn ((P + k) * 48 + 48) s.l.length).toNat := by omega
  have m6 : (mn ((P + k) * 48 + 48) s.l.length).toNat ≤ s.l.length := by omega
  have hsl : PV.sl .no 1 ((mn ((P + k) * 48 + 48) s.l.length).toNat - ((P + k) * 48).toNat) (((s.l.map b8).take (mn ((P + k) * 48 + 48) s.l.length).toNat).drop ((P + k) * 48).toNat) = sl8 (chunkF x (P + k)).d := by
    unfold sl8 chunkF
    dsimp only
    rw [hx, List.map_drop, List.map_take, List.length_drop, List.length_take, Nat.min_eq_left m6]
  have c1 := T_bytes8 (chunkF x (P + k)).d (chunkF x (P + k)).d (by omega)
  simp only [q5_1, q5_0, evL_op, evL_sel, evL_nx, evL_exit, evL_ret, evL_join, evL_block, evL_cond, evK_some, evJ_nx, evJ_rt, evJ_ex, evB_nx, evB_rt, evB_ex, evC2_bool, evS_and, evS_or, evS_tf, evS_ft, ev_t, ev_s, ev_c, evalOp, bin_add, bin_sub, bin_mul, bin_eql, bin_neq, bin_lss, bin_leq, bin_gtr, bin_geq, sbin_eql, sbin_neq, b8, List.map_cons, List.map_nil, PV.rens, PV.ren, if_true, if_false, Bool.false_eq_true, reduceIte, Nat.reduceAdd, Nat.reduceSub, Nat.reduceMul, Nat.reduceEqDiff, Nat.reduceLeDiff, Int.reduceLE, Int.reduceLT, Int.reduceEq, Int.reduceToNat, Int.reduceAdd, Int.reduceSub, Int.reduceNeg, decide_true, decide_false, Bool.not_true, Bool.not_false, Bool.true_and, Bool.false_and, Bool.and_true, Bool.and_false, Bool.or_true, Bool.true_or, Bool.or_false, Bool.false_or, and_self, and_true, true_and, Nat.le_refl, Nat.zero_add, Nat.mul_one, Nat.one_ne_zero, Nat.zero_le, highP, lowP, Option.map_some, Option.map_none, List.drop_zero, List.take_zero, List.length_cons, List.length_nil, List.nil_append, List.append_nil, List.cons_append, fillP, PV.cells?, PV.one, PV.cleans, PV.clean, PV.of?, List.all_cons, List.all_nil, List.take_succ_cons, List.drop_succ_cons, Bool.and_self, Int.natCast_nonneg, Int.toNat_natCast, Int.toNat_zero, Tk.ren, PV.of?, h1, g, w1, c0, hO, hN, e1, w2, m1, m2, m2', m3, m4, m5, m6, hsl, c1, Nat.zero_lt_one, or_true, List.getElem?_cons_zero, List.getElem?_cons_succ]
theorem loop_go (P : Int) (m : Nat) (hP : 0 ≤ P) (hm : P + m ≤ s.cnt) (k0 : Nat) (L : List PV) (n : Nat) (i : Int) : ∀ (j k kk : Nat), k + j = m → j < kk →
    loopL 2 (evL TS k0 q5_1) kk [.sl .no 5 n L, .ep (sndC s.N s.l s.R s.B s.X s.W s.O) 0, .ptr 0 0, .int .i64 i, .ptr 1 0, .sl .no 5 m ((chunks x P m).flatMap Frm.cells), .int .i64 k] [cellsS x, cellsS y] =
      some (.ex 2, [.sl .no 5 n L, .ep (sndC s.N s.l s.R s.B s.X s.W s.O) 0, .ptr 0 0, .int .i64 i, .ptr 1 0], [cellsS x, cellsS y]) := by
  intro j
  induction j with
  | zero =>
    intro k kk h1 h2
    obtain ⟨kk, rfl⟩ : ∃ k', kk = k' + 1 := ⟨kk - 1, by omega⟩
    have h3 : ¬ (k : Int) < m := by omega
    rw [loopL_succ, head_in1]
    simp only [q5_1, evL_op, evL_sel, evL_nx, evL_exit, evL_ret, evL_join, evL_block, evL_cond, evK_some, evJ_nx, evJ_rt, evJ_ex, evB_nx, evB_rt, evB_ex, evC2_bool, evS_and, evS_or, evS_tf, evS_ft, ev_t, ev_s, ev_c, evalOp, bin_add, bin_sub, bin_mul, bin_eql, bin_neq, bin_lss, bin_leq, bin_gtr, bin_geq, sbin_eql, sbin_neq, b8, List.map_cons, List.map_nil, PV.rens, PV.ren, if_true, if_false, Bool.false_eq_true, reduceIte, Nat.reduceAdd, Nat.reduceSub, Nat.reduceMul, Nat.reduceEqDiff, Nat.reduceLeDiff, Int.reduceLE, Int.reduceLT, Int.reduceEq, Int.reduceToNat, Int.reduceAdd, Int.reduceSub, Int.reduceNeg, decide_true, decide_false, Bool.not_true, Bool.not_false, Bool.true_and, Bool.false_and, Bool.and_true, Bool.and_false, Bool.or_true, Bool.true_or, Bool.or_false, Bool.false_or, and_self, and_true, true_and, Nat.le_refl, Nat.zero_add, Nat.mul_one, Nat.one_ne_zero, Nat.zero_le, highP, lowP, Option.map_some, Option.map_none, List.drop_zero, List.take_zero, List.length_cons, List.length_nil, List.nil_append, List.append_nil, List.cons_append, fillP, PV.cells?, PV.one, PV.cleans, PV.clean, PV.of?, List.all_cons, List.all_nil, List.take_succ_cons, List.drop_succ_cons, Bool.and_self, Int.natCast_nonneg, Int.toNat_natCast, Int.toNat_zero, h3]
  | succ j ih =>
    intro k kk h1 h2
    obtain ⟨kk, rfl⟩ : ∃ k', kk = k' + 1 := ⟨kk - 1, by omega⟩
    rw [loopL_succ, head_in1]
    dsimp only
    rw [body_go s x y hx hN hO hs P m k (by omega) hP hm]
    exact ih (k + 1) kk (by omega) (by omega)
theorem loop_hello (k0 kk : Nat) (L : List PV) (n : Nat) (i : Int) :
    loopL 2 (evL TS k0 q5_1) (kk + 2) [.sl .no 5 n L, .ep (sndC s.N s.l s.R s.B s.X s.W s.O) 0, .ptr 0 0, .int .i64 i, .ptr 1 0, outPV [helloF x], .int .i64 0] [cellsS x, cellsS y] =
      some (.ex 2, [.sl .no 5 n L, .ep (sndC s.N s.l s.R s.B s.X s.W s.O) 0, .ptr 0 0, .int .i64 i, .ptr 1 0], [cellsS x, cellsS y]) := by
  have hL : (1 : Int) ≤ s.l.length ∧ (s.l.length : Int) ≤ 5000 := hs.2.1
  have hn := hs.1
  have hrf : RF 1 s.N s.l.length 0 (([] : List UInt8).length : Int) := by
    refine ⟨by omega, .inl ⟨.inl rfl, ?_, ?_, rfl, rfl⟩⟩ <;> omega
  have c0 := T_refFrame 1 s.N s.l.length 0 nilB (by decide)
  rw [decide_eq_true hrf] at c0
  have ho : outPV [helloF x] = .sl .no 5 1 [.int .i64 1, .int .i64 s.N, .int .i64 s.l.length, .int .i64 0, .sl .nil 0 0 []] := by rw [← hN, ← hx]; rfl
  have o1 : ((1 : Nat) : Int) = 1 := rfl
  have w1 : IntKind.i64.wrap 1 = 1 := wr (by decide) (by decide)
  rw [ho, loopL_succ, head_in1]
  have hb : evL TS k0 q5_1 [.sl .no 5 n L, .ep (sndC s.N s.l s.R s.B s.X s.W s.O) 0, .ptr 0 0, .int .i64 i, .ptr 1 0, .sl .no 5 1 [.int .i64 1, .int .i64 s.N, .int .i64 s.l.length, .int .i64 0, .sl .nil 0 0 []], .int .i64 0] [cellsS x, cellsS y] =
      some (.nx, [.sl .no 5 n L, .ep (sndC s.N s.l s.R s.B s.X s.W s.O) 0, .ptr 0 0, .int .i64 i, .ptr 1 0, .sl .no 5 1 [.int .i64 1, .int .i64 s.N, .int .i64 s.l.length, .int .i64 0, .sl .nil 0 0 []], .int .i64 1], [cellsS x, cellsS y]) := by
    simp only [q5_1, q5_0, evL_op, evL_sel, evL_nx, evL_exit, evL_ret, evL_join, evL_block, evL_cond, evK_some, evJ_nx, evJ_rt, evJ_ex, evB_nx, evB_rt, evB_ex, evC2_bool, evS_and, evS_or, evS_tf, evS_ft, ev_t, ev_s, ev_c, evalOp, bin_add, bin_sub, bin_mul, bin_eql, bin_neq, bin_lss, bin_leq, bin_gtr, bin_geq, sbin_eql, sbin_neq, b8, List.map_cons, List.map_nil, PV.rens, PV.ren, if_true, if_false, Bool.false_eq_true, reduceIte, Nat.reduceAdd, Nat.reduceSub, Nat.reduceMul, Nat.reduceEqDiff, Nat.reduceLeDiff, Int.reduceLE, Int.reduceLT, Int.reduceEq, Int.reduceToNat, Int.reduceAdd, Int.reduceSub, Int.reduceNeg, decide_true, decide_false, Bool.not_true, Bool.not_false, Bool.true_and, Bool.false_and, Bool.and_true, Bool.and_false, Bool.or_true, Bool.true_or, Bool.or_false, Bool.false_or, and_self, and_true, true_and, Nat.le_refl, Nat.zero_add, Nat.mul_one, Nat.one_ne_zero, Nat.zero_le, highP, lowP, Option.map_some, Option.map_none, List.drop_zero, List.take_zero, List.length_cons, List.length_nil, List.nil_append, List.append_nil, List.cons_append, fillP, PV.cells?, PV.one, PV.cleans, PV.clean, PV.of?, List.all_cons, List.all_nil, List.take_succ_cons, List.drop_succ_cons, Bool.and_self, Int.natCast_nonneg, Int.toNat_natCast, Int.toNat_zero, Tk.ren, PV.of?, c0, hO, o1, w1, List.getElem?_cons_zero, List.getElem?_cons_succ]
  dsimp only
  rw [hb]
  dsimp only
  rw [loopL_succ, head_in1]
  simp only [q5_1, evL_op, evL_sel, evL_nx, evL_exit, evL_ret, evL_join, evL_block, evL_cond, evK_some, evJ_nx, evJ_rt, evJ_ex, evB_nx, evB_rt, evB_ex, evC2_bool, evS_and, evS_or, evS_tf, evS_ft, ev_t, ev_s, ev_c, evalOp, bin_add, bin_sub, bin_mul, bin_eql, bin_neq, bin_lss, bin_leq, bin_gtr, bin_geq, sbin_eql, sbin_neq, b8, List.map_cons, List.map_nil, PV.rens, PV.ren, if_true, if_false, Bool.false_eq_true, reduceIte, Nat.reduceAdd, Nat.reduceSub, Nat.reduceMul, Nat.reduceEqDiff, Nat.reduceLeDiff, Int.reduceLE, Int.reduceLT, Int.reduceEq, Int.reduceToNat, Int.reduceAdd, Int.reduceSub, Int.reduceNeg, decide_true, decide_false, Bool.not_true, Bool.not_false, Bool.true_and, Bool.false_and, Bool.and_true, Bool.and_false, Bool.or_true, Bool.true_or, Bool.or_false, Bool.false_or, and_self, and_true, true_and, Nat.le_refl, Nat.zero_add, Nat.mul_one, Nat.one_ne_zero, Nat.zero_le, highP, lowP, Option.map_some, Option.map_none, List.drop_zero, List.take_zero, List.length_cons, List.length_nil, List.nil_append, List.append_nil, List.cons_append, fillP, PV.cells?, PV.one, PV.cleans, PV.clean, PV.of?, List.all_cons, List.all_nil, List.take_succ_cons, List.drop_succ_cons, Bool.and_self, Int.natCast_nonneg, Int.toNat_natCast, Int.toNat_zero, o1]
end
/-- The frames of a tick are as they should be. -/
theorem inner (s x y : Snd) (hl : x.l = s.l) (hN : x.N = s.N) (hs : s.ok) (hx : x.ok) (k0 : Nat) (hk : 10 ≤ k0) : ∃ t z m cs T, outPV x.out = .sl t z m cs ∧ (t = .no ∨ t = .nil) ∧ m ≤ 7 ∧ (T = [] ∨ T = [.tok]) ∧ ∀ (L : List PV) (n : Nat) (i : Int),
    loopL 2 (evL TS k0 q5_1) k0 [.sl .no 5 n L, .ep (sndC s.N s.l s.R s.B s.X s.W s.O) 0, .ptr 0 0, .int .i64 i, .ptr 1 0, .sl t z m cs, .int .i64 0] [cellsS x, cellsS y] =
      some (.ex 2, [.sl .no 5 n L, .ep (sndC s.N s.l s.R s.B s.X s.W s.O) 0, .ptr 0 0, .int .i64 i, .ptr 1 0], cellsS x :: cellsS y :: T) := by
  obtain ⟨kk, rfl⟩ : ∃ kk, k0 = kk + 2 := ⟨k0 - 2, by omega⟩
  have none : ∀ L n i, loopL 2 (evL TS (kk + 2) q5_1) (kk + 2) [.sl .no 5 n L, .ep (sndC s.N s.l s.R s.B s.X s.W s.O) 0, .ptr 0 0, .int .i64 i, .ptr 1 0, .sl .nil 0 0 [], .int .i64 0] [cellsS x, cellsS y] = _ := fun L n i => loop_none s x y (kk + 2) (kk + 1) L n i
  by_cases hO : x.O = true
  · exact ⟨.nil, 0, 0, [], [.tok], by unfold Snd.out; rw [if_pos hO]; rfl, .inr rfl, by decide, .inr rfl, none⟩
  have hO' : x.O = false := by simpa using hO
  by_cases h1 : x.R = true ∧ x.X < x.top
  · obtain ⟨m, hm⟩ : ∃ m : Nat, (x.top - x.X).toNat = m := ⟨_, rfl⟩
    have hX := hx.2.2.2.2.2
    have hB := hx.2.2.2.2.1
    have ht := (le_mn.1 (Int.le_refl x.top))
    have hc := (cntK hx).2.2
    have hcc : x.cnt = s.cnt := by unfold Snd.cnt; rw [hl]
    have hm0 : 0 < m := by omega
    have hm7 : m ≤ 7 := by have := ht.1; omega
    refine ⟨.no, 5, m, _, [], by unfold Snd.out; rw [if_neg hO, if_pos h1, hm, outPV_chunks _ _ _ hm0], .inl rfl, hm7, .inl rfl, fun L n i => ?_⟩
    exact loop_go s x y hl hN hO' hs x.X m (by omega) (by omega) (kk + 2) L n i m 0 (kk + 2) (by omega) (by omega)
  by_cases h2 : 0 < x.W
  · exact ⟨.nil, 0, 0, [], [.tok], by unfold Snd.out; rw [if_neg hO, if_neg h1, if_pos h2]; rfl, .inr rfl, by decide, .inr rfl, none⟩
  · refine ⟨.no, 5, 1, _, [], by unfold Snd.out; rw [if_neg hO, if_neg h1, if_neg h2]; rfl, .inl rfl, by decide, .inl rfl, fun L n i => ?_⟩
    exact loop_hello s x y hl hN hO' hs (kk + 2) kk L n i
def Junk (T : List Ob) : Prop := ∀ (L : List PV) (n : Nat) (e : List PV) (i : Int) (x : Snd), headS 1 [.sl .no 5 n L, .ep e 0, .ptr 0 0, .int .i64 i] (cellsS x :: T) = ([.sl .no 5 n L, .ep e 0, .ptr 0 0, .int .i64 i], [cellsS x])
theorem junk0 : Junk [] := fun _ _ _ _ _ => rfl
theorem junk1 (y z : Snd) : Junk [cellsS y, cellsS z] := fun _ _ _ _ _ => rfl
theorem junk2 (y : Snd) : Junk [cellsS y, .cells zeroC] := fun _ _ _ _ _ => rfl
theorem junk3 (y z : Snd) : Junk [cellsS y, .tok, cellsS z] := fun _ _ _ _ _ => rfl
theorem junk4 (y : Snd) : Junk [cellsS y, .tok, .cells zeroC] := fun _ _ _ _ _ => rfl
theorem hear_err (x : Snd) {K N O S n e : Int} (h : x.hear K N O S n = .error e) : ¬ e = 0 := by
  unfold Snd.hear at h
  split at h
  · cases h; decide
  split at h
  · cases h; decide
  split at h
  · split at h
    · cases h
    · cases h; decide
  split at h
  · split at h
    · cases h
    · cases h; decide
  split at h
  · cases h
  · cases h; decide
theorem body_stays (s x : Snd) (hl : x.l = s.l) (hN : x.N = s.N) (hs : s.ok) (hx : x.ok) (k0 : Nat) (hk : 10 ≤ k0) (L : List PV) (n i : Nat) (hi : i < n) (hn : n ≤ 6000) (a : FrmV) (ha : (L.drop (i * 5)).take 5 = FrmL a) :
    ∃ r, evL TS k0 q5_4 [.sl .no 5 n L, .ep (sndC s.N s.l s.R s.B s.X s.W s.O) 0, .ptr 0 0, .int .i64 i] [cellsS x] = some r ∧
      (r = (.rt, [.bool true], [cellsS x]) ∨ ∃ x' T, Junk T ∧ x'.ok ∧ x'.l = s.l ∧ x'.N = s.N ∧ r = (.nx, [.sl .no 5 n L, .ep (sndC s.N s.l s.R s.B s.X s.W s.O) 0, .ptr 0 0, .int .i64 (i + 1 : Nat)], cellsS x' :: T)) := by
  obtain ⟨K, N, O, S, d⟩ := a
  obtain ⟨xN, xl, xR, xB, xX, xW, xO⟩ := x
  dsimp only at hl hN
  subst hl hN
  have hL : (1 : Int) ≤ s.l.length ∧ (s.l.length : Int) ≤ 5000 := hs.2.1
  have h1 : (i : Int) < n := by omega
  have w1 : IntKind.i64.wrap ((i : Int) + 1) = ((i + 1 : Nat) : Int) := wr (by omega) (by omega)
  have ha' : (L.drop (i * 5)).take 5 = [.int .i64 K, .int .i64 N, .int .i64 O, .int .i64 S, .sl .no 1 d.length (d.map b8)] := ha
  by_cases h2 : (300 : Int) < d.length
  · refine ⟨_, ?_, .inl rfl⟩
    simp only [q5_4, evL_op, evL_sel, evL_nx, evL_exit, evL_ret, evL_join, evL_block, evL_cond, evK_some, evJ_nx, evJ_rt, evJ_ex, evB_nx, evB_rt, evB_ex, evC2_bool, evS_and, evS_or, evS_tf, evS_ft, ev_t, ev_s, ev_c, evalOp, bin_add, bin_sub, bin_mul, bin_eql, bin_neq, bin_lss, bin_leq, bin_gtr, bin_geq, sbin_eql, sbin_neq, b8, List.map_cons, List.map_nil, PV.rens, PV.ren, if_true, if_false, Bool.false_eq_true, reduceIte, Nat.reduceAdd, Nat.reduceSub, Nat.reduceMul, Nat.reduceEqDiff, Nat.reduceLeDiff, Int.reduceLE, Int.reduceLT, Int.reduceEq, Int.reduceToNat, Int.reduceAdd, Int.reduceSub, Int.reduceNeg, decide_true, decide_false, Bool.not_true, Bool.not_false, Bool.true_and, Bool.false_and, Bool.and_true, Bool.and_false, Bool.or_true, Bool.true_or, Bool.or_false, Bool.false_or, and_self, and_true, true_and, Nat.le_refl, Nat.zero_add, Nat.mul_one, Nat.one_ne_zero, Nat.zero_le, highP, lowP, Option.map_some, Option.map_none, List.drop_zero, List.take_zero, List.length_cons, List.length_nil, List.nil_append, List.append_nil, List.cons_append, fillP, PV.cells?, PV.one, PV.cleans, PV.clean, PV.of?, List.all_cons, List.all_nil, List.take_succ_cons, List.drop_succ_cons, Bool.and_self, Int.natCast_nonneg, Int.toNat_natCast, Int.toNat_zero, Tk.ren, PV.of?, h1, h2, ha']
  obtain ⟨hy, hyN, hyl⟩ := tick_stays _ hx
  have c4 := T_Tick _ hx
  generalize Snd.tick ⟨s.N, s.l, xR, xB, xX, xW, xO⟩ = y at hy hyN hyl c4
  obtain ⟨yN, yl, yR, yB, yX, yW, yO⟩ := y
  dsimp only at hyN hyl
  subst hyN hyl
  obtain ⟨t, z, m, cs, T, ho, ht, hm, hT, lp⟩ := inner s ⟨s.N, s.l, xR, xB, xX, xW, xO⟩ ⟨s.N, s.l, yR, yB, yX, yW, yO⟩ rfl rfl hs hx k0 hk
  rw [ho] at c4
  have c5 := T_refSend ⟨s.N, s.l, yR, yB, yX, yW, yO⟩ (by dsimp only; omega)
  rw [decide_eq_true hy] at c5
  have c6 := T_bytes8 s.l s.l (by omega)
  have c7 := T_Hear _ hy K N O S (slB d)
  have lp := lp L n i
  have hm' : ¬ (7 : Int) < m := by omega
  cases hh : Snd.hear ⟨s.N, s.l, yR, yB, yX, yW, yO⟩ K N O S d.length with
  | error e =>
    rw [hh] at c7
    have he := hear_err _ hh
    simp only [hearPV] at c7
    rcases hT with rfl | rfl
    · refine ⟨_, ?_, .inr ⟨⟨s.N, s.l, yR, yB, yX, yW, yO⟩, _, junk2 ⟨s.N, s.l, yR, yB, yX, yW, yO⟩, hy, rfl, rfl, rfl⟩⟩
      rcases ht with rfl | rfl <;> (simp only [q5_4, evL_op, evL_sel, evL_nx, evL_exit, evL_ret, evL_join, evL_block, evL_cond, evK_some, evJ_nx, evJ_rt, evJ_ex, evB_nx, evB_rt, evB_ex, evC2_bool, evS_and, evS_or, evS_tf, evS_ft, ev_t, ev_s, ev_c, evalOp, bin_add, bin_sub, bin_mul, bin_eql, bin_neq, bin_lss, bin_leq, bin_gtr, bin_geq, sbin_eql, sbin_neq, b8, List.map_cons, List.map_nil, PV.rens, PV.ren, if_true, if_false, Bool.false_eq_true, reduceIte, Nat.reduceAdd, Nat.reduceSub, Nat.reduceMul, Nat.reduceEqDiff, Nat.reduceLeDiff, Int.reduceLE, Int.reduceLT, Int.reduceEq, Int.reduceToNat, Int.reduceAdd, Int.reduceSub, Int.reduceNeg, decide_true, decide_false, Bool.not_true, Bool.not_false, Bool.true_and, Bool.false_and, Bool.and_true, Bool.and_false, Bool.or_true, Bool.true_or, Bool.or_false, Bool.false_or, and_self, and_true, true_and, Nat.le_refl, Nat.zero_add, Nat.mul_one, Nat.one_ne_zero, Nat.zero_le, highP, lowP, Option.map_some, Option.map_none, List.drop_zero, List.take_zero, List.length_cons, List.length_nil, List.nil_append, List.append_nil, List.cons_append, fillP, PV.cells?, PV.one, PV.cleans, PV.clean, PV.of?, List.all_cons, List.all_nil, List.take_succ_cons, List.drop_succ_cons, Bool.and_self, Int.natCast_nonneg, Int.toNat_natCast, Int.toNat_zero, Tk.ren, PV.of?, h1, h2, ha', c4, c5, c6, hm', evL_loop, List.getElem?_cons_zero, List.getElem?_cons_succ, List.set_cons_zero, List.set_cons_succ]; rw [lp]; simp only [q5_2, q5_3, evL_op, evL_sel, evL_nx, evL_exit, evL_ret, evL_join, evL_block, evL_cond, evK_some, evJ_nx, evJ_rt, evJ_ex, evB_nx, evB_rt, evB_ex, evC2_bool, evS_and, evS_or, evS_tf, evS_ft, ev_t, ev_s, ev_c, evalOp, bin_add, bin_sub, bin_mul, bin_eql, bin_neq, bin_lss, bin_leq, bin_gtr, bin_geq, sbin_eql, sbin_neq, b8, List.map_cons, List.map_nil, PV.rens, PV.ren, if_true, if_false, Bool.false_eq_true, reduceIte, Nat.reduceAdd, Nat.reduceSub, Nat.reduceMul, Nat.reduceEqDiff, Nat.reduceLeDiff, Int.reduceLE, Int.reduceLT, Int.reduceEq, Int.reduceToNat, Int.reduceAdd, Int.reduceSub, Int.reduceNeg, decide_true, decide_false, Bool.not_true, Bool.not_false, Bool.true_and, Bool.false_and, Bool.and_true, Bool.and_false, Bool.or_true, Bool.true_or, Bool.or_false, Bool.false_or, and_self, and_true, true_and, Nat.le_refl, Nat.zero_add, Nat.mul_one, Nat.one_ne_zero, Nat.zero_le, highP, lowP, Option.map_some, Option.map_none, List.drop_zero, List.take_zero, List.length_cons, List.length_nil, List.nil_append, List.append_nil, List.cons_append, fillP, PV.cells?, PV.one, PV.cleans, PV.clean, PV.of?, List.all_cons, List.all_nil, List.take_succ_cons, List.drop_succ_cons, Bool.and_self, Int.natCast_nonneg, Int.toNat_natCast, Int.toNat_zero, Tk.ren, PV.of?, h1, ha', c7, he, w1, Snd.zero, List.getElem?_cons_zero, List.getElem?_cons_succ, List.set_cons_zero, List.set_cons_succ])
    · refine ⟨_, ?_, .inr ⟨⟨s.N, s.l, yR, yB, yX, yW, yO⟩, _, junk4 ⟨s.N, s.l, yR, yB, yX, yW, yO⟩, hy, rfl, rfl, rfl⟩⟩
      rcases ht with rfl | rfl <;> (simp only [q5_4, evL_op, evL_sel, evL_nx, evL_exit, evL_ret, evL_join, evL_block, evL_cond, evK_some, evJ_nx, evJ_rt, evJ_ex, evB_nx, evB_rt, evB_ex, evC2_bool, evS_and, evS_or, evS_tf, evS_ft, ev_t, ev_s, ev_c, evalOp, bin_add, bin_sub, bin_mul, bin_eql, bin_neq, bin_lss, bin_leq, bin_gtr, bin_geq, sbin_eql, sbin_neq, b8, List.map_cons, List.map_nil, PV.rens, PV.ren, if_true, if_false, Bool.false_eq_true, reduceIte, Nat.reduceAdd, Nat.reduceSub, Nat.reduceMul, Nat.reduceEqDiff, Nat.reduceLeDiff, Int.reduceLE, Int.reduceLT, Int.reduceEq, Int.reduceToNat, Int.reduceAdd, Int.reduceSub, Int.reduceNeg, decide_true, decide_false, Bool.not_true, Bool.not_false, Bool.true_and, Bool.false_and, Bool.and_true, Bool.and_false, Bool.or_true, Bool.true_or, Bool.or_false, Bool.false_or, and_self, and_true, true_and, Nat.le_refl, Nat.zero_add, Nat.mul_one, Nat.one_ne_zero, Nat.zero_le, highP, lowP, Option.map_some, Option.map_none, List.drop_zero, List.take_zero, List.length_cons, List.length_nil, List.nil_append, List.append_nil, List.cons_append, fillP, PV.cells?, PV.one, PV.cleans, PV.clean, PV.of?, List.all_cons, List.all_nil, List.take_succ_cons, List.drop_succ_cons, Bool.and_self, Int.natCast_nonneg, Int.toNat_natCast, Int.toNat_zero, Tk.ren, PV.of?, h1, h2, ha', c4, c5, c6, hm', evL_loop, List.getElem?_cons_zero, List.getElem?_cons_succ, List.set_cons_zero, List.set_cons_succ]; rw [lp]; simp only [q5_2, q5_3, evL_op, evL_sel, evL_nx, evL_exit, evL_ret, evL_join, evL_block, evL_cond, evK_some, evJ_nx, evJ_rt, evJ_ex, evB_nx, evB_rt, evB_ex, evC2_bool, evS_and, evS_or, evS_tf, evS_ft, ev_t, ev_s, ev_c, evalOp, bin_add, bin_sub, bin_mul, bin_eql, bin_neq, bin_lss, bin_leq, bin_gtr, bin_geq, sbin_eql, sbin_neq, b8, List.map_cons, List.map_nil, PV.rens, PV.ren, if_true, if_false, Bool.false_eq_true, reduceIte, Nat.reduceAdd, Nat.reduceSub, Nat.reduceMul, Nat.reduceEqDiff, Nat.reduceLeDiff, Int.reduceLE, Int.reduceLT, Int.reduceEq, Int.reduceToNat, Int.reduceAdd, Int.reduceSub, Int.reduceNeg, decide_true, decide_false, Bool.not_true, Bool.not_false, Bool.true_and, Bool.false_and, Bool.and_true, Bool.and_false, Bool.or_true, Bool.true_or, Bool.or_false, Bool.false_or, and_self, and_true, true_and, Nat.le_refl, Nat.zero_add, Nat.mul_one, Nat.one_ne_zero, Nat.zero_le, highP, lowP, Option.map_some, Option.map_none, List.drop_zero, List.take_zero, List.length_cons, List.length_nil, List.nil_append, List.append_nil, List.cons_append, fillP, PV.cells?, PV.one, PV.cleans, PV.clean, PV.of?, List.all_cons, List.all_nil, List.take_succ_cons, List.drop_succ_cons, Bool.and_self, Int.natCast_nonneg, Int.toNat_natCast, Int.toNat_zero, Tk.ren, PV.of?, h1, ha', c7, he, w1, Snd.zero, List.getElem?_cons_zero, List.getElem?_cons_succ, List.set_cons_zero, List.set_cons_succ])
  | ok v =>
    rw [hh] at c7
    obtain ⟨hv, hvN, hvl, hyO⟩ := hear_stays _ _ hy hh
    dsimp only at hyO
    subst hyO
    obtain ⟨vN, vl, vR, vB, vX, vW, vO⟩ := v
    dsimp only at hvN hvl
    subst hvN hvl
    have c8 := T_refSend ⟨s.N, s.l, vR, vB, vX, vW, vO⟩ (by dsimp only; omega)
    rw [decide_eq_true hv] at c8
    simp only [hearPV] at c7
    rcases hT with rfl | rfl
    · refine ⟨_, ?_, .inr ⟨⟨s.N, s.l, vR, vB, vX, vW, vO⟩, _, junk1 ⟨s.N, s.l, yR, yB, yX, yW, false⟩ ⟨s.N, s.l, vR, vB, vX, vW, vO⟩, hv, rfl, rfl, rfl⟩⟩
      rcases ht with rfl | rfl <;> (simp only [q5_4, evL_op, evL_sel, evL_nx, evL_exit, evL_ret, evL_join, evL_block, evL_cond, evK_some, evJ_nx, evJ_rt, evJ_ex, evB_nx, evB_rt, evB_ex, evC2_bool, evS_and, evS_or, evS_tf, evS_ft, ev_t, ev_s, ev_c, evalOp, bin_add, bin_sub, bin_mul, bin_eql, bin_neq, bin_lss, bin_leq, bin_gtr, bin_geq, sbin_eql, sbin_neq, b8, List.map_cons, List.map_nil, PV.rens, PV.ren, if_true, if_false, Bool.false_eq_true, reduceIte, Nat.reduceAdd, Nat.reduceSub, Nat.reduceMul, Nat.reduceEqDiff, Nat.reduceLeDiff, Int.reduceLE, Int.reduceLT, Int.reduceEq, Int.reduceToNat, Int.reduceAdd, Int.reduceSub, Int.reduceNeg, decide_true, decide_false, Bool.not_true, Bool.not_false, Bool.true_and, Bool.false_and, Bool.and_true, Bool.and_false, Bool.or_true, Bool.true_or, Bool.or_false, Bool.false_or, and_self, and_true, true_and, Nat.le_refl, Nat.zero_add, Nat.mul_one, Nat.one_ne_zero, Nat.zero_le, highP, lowP, Option.map_some, Option.map_none, List.drop_zero, List.take_zero, List.length_cons, List.length_nil, List.nil_append, List.append_nil, List.cons_append, fillP, PV.cells?, PV.one, PV.cleans, PV.clean, PV.of?, List.all_cons, List.all_nil, List.take_succ_cons, List.drop_succ_cons, Bool.and_self, Int.natCast_nonneg, Int.toNat_natCast, Int.toNat_zero, Tk.ren, PV.of?, h1, h2, ha', c4, c5, c6, hm', evL_loop, List.getElem?_cons_zero, List.getElem?_cons_succ, List.set_cons_zero, List.set_cons_succ]; rw [lp]; simp only [q5_2, q5_3, evL_op, evL_sel, evL_nx, evL_exit, evL_ret, evL_join, evL_block, evL_cond, evK_some, evJ_nx, evJ_rt, evJ_ex, evB_nx, evB_rt, evB_ex, evC2_bool, evS_and, evS_or, evS_tf, evS_ft, ev_t, ev_s, ev_c, evalOp, bin_add, bin_sub, bin_mul, bin_eql, bin_neq, bin_lss, bin_leq, bin_gtr, bin_geq, sbin_eql, sbin_neq, b8, List.map_cons, List.map_nil, PV.rens, PV.ren, if_true, if_false, Bool.false_eq_true, reduceIte, Nat.reduceAdd, Nat.reduceSub, Nat.reduceMul, Nat.reduceEqDiff, Nat.reduceLeDiff, Int.reduceLE, Int.reduceLT, Int.reduceEq, Int.reduceToNat, Int.reduceAdd, Int.reduceSub, Int.reduceNeg, decide_true, decide_false, Bool.not_true, Bool.not_false, Bool.true_and, Bool.false_and, Bool.and_true, Bool.and_false, Bool.or_true, Bool.true_or, Bool.or_false, Bool.false_or, and_self, and_true, true_and, Nat.le_refl, Nat.zero_add, Nat.mul_one, Nat.one_ne_zero, Nat.zero_le, highP, lowP, Option.map_some, Option.map_none, List.drop_zero, List.take_zero, List.length_cons, List.length_nil, List.nil_append, List.append_nil, List.cons_append, fillP, PV.cells?, PV.one, PV.cleans, PV.clean, PV.of?, List.all_cons, List.all_nil, List.take_succ_cons, List.drop_succ_cons, Bool.and_self, Int.natCast_nonneg, Int.toNat_natCast, Int.toNat_zero, Tk.ren, PV.of?, h1, ha', c6, c7, c8, w1, List.getElem?_cons_zero, List.getElem?_cons_succ, List.set_cons_zero, List.set_cons_succ])
    · refine ⟨_, ?_, .inr ⟨⟨s.N, s.l, vR, vB, vX, vW, vO⟩, _, junk3 ⟨s.N, s.l, yR, yB, yX, yW, false⟩ ⟨s.N, s.l, vR, vB, vX, vW, vO⟩, hv, rfl, rfl, rfl⟩⟩
      rcases ht with rfl | rfl <;> (simp only [q5_4, evL_op, evL_sel, evL_nx, evL_exit, evL_ret, evL_join, evL_block, evL_cond, evK_some, evJ_nx, evJ_rt, evJ_ex, evB_nx, evB_rt, evB_ex, evC2_bool, evS_and, evS_or, evS_tf, evS_ft, ev_t, ev_s, ev_c, evalOp, bin_add, bin_sub, bin_mul, bin_eql, bin_neq, bin_lss, bin_leq, bin_gtr, bin_geq, sbin_eql, sbin_neq, b8, List.map_cons, List.map_nil, PV.rens, PV.ren, if_true, if_false, Bool.false_eq_true, reduceIte, Nat.reduceAdd, Nat.reduceSub, Nat.reduceMul, Nat.reduceEqDiff, Nat.reduceLeDiff, Int.reduceLE, Int.reduceLT, Int.reduceEq, Int.reduceToNat, Int.reduceAdd, Int.reduceSub, Int.reduceNeg, decide_true, decide_false, Bool.not_true, Bool.not_false, Bool.true_and, Bool.false_and, Bool.and_true, Bool.and_false, Bool.or_true, Bool.true_or, Bool.or_false, Bool.false_or, and_self, and_true, true_and, Nat.le_refl, Nat.zero_add, Nat.mul_one, Nat.one_ne_zero, Nat.zero_le, highP, lowP, Option.map_some, Option.map_none, List.drop_zero, List.take_zero, List.length_cons, List.length_nil, List.nil_append, List.append_nil, List.cons_append, fillP, PV.cells?, PV.one, PV.cleans, PV.clean, PV.of?, List.all_cons, List.all_nil, List.take_succ_cons, List.drop_succ_cons, Bool.and_self, Int.natCast_nonneg, Int.toNat_natCast, Int.toNat_zero, Tk.ren, PV.of?, h1, h2, ha', c4, c5, c6, hm', evL_loop, List.getElem?_cons_zero, List.getElem?_cons_succ, List.set_cons_zero, List.set_cons_succ]; rw [lp]; simp only [q5_2, q5_3, evL_op, evL_sel, evL_nx, evL_exit, evL_ret, evL_join, evL_block, evL_cond, evK_some, evJ_nx, evJ_rt, evJ_ex, evB_nx, evB_rt, evB_ex, evC2_bool, evS_and, evS_or, evS_tf, evS_ft, ev_t, ev_s, ev_c, evalOp, bin_add, bin_sub, bin_mul, bin_eql, bin_neq, bin_lss, bin_leq, bin_gtr, bin_geq, sbin_eql, sbin_neq, b8, List.map_cons, List.map_nil, PV.rens, PV.ren, if_true, if_false, Bool.false_eq_true, reduceIte, Nat.reduceAdd, Nat.reduceSub, Nat.reduceMul, Nat.reduceEqDiff, Nat.reduceLeDiff, Int.reduceLE, Int.reduceLT, Int.reduceEq, Int.reduceToNat, Int.reduceAdd, Int.reduceSub, Int.reduceNeg, decide_true, decide_false, Bool.not_true, Bool.not_false, Bool.true_and, Bool.false_and, Bool.and_true, Bool.and_false, Bool.or_true, Bool.true_or, Bool.or_false, Bool.false_or, and_self, and_true, true_and, Nat.le_refl, Nat.zero_add, Nat.mul_one, Nat.one_ne_zero, Nat.zero_le, highP, lowP, Option.map_some, Option.map_none, List.drop_zero, List.take_zero, List.length_cons, List.length_nil, List.nil_append, List.append_nil, List.cons_append, fillP, PV.cells?, PV.one, PV.cleans, PV.clean, PV.of?, List.all_cons, List.all_nil, List.take_succ_cons, List.drop_succ_cons, Bool.and_self, Int.natCast_nonneg, Int.toNat_natCast, Int.toNat_zero, Tk.ren, PV.of?, h1, ha', c6, c7, c8, w1, List.getElem?_cons_zero, List.getElem?_cons_succ, List.set_cons_zero, List.set_cons_succ])
theorem loop_stays (s : Snd) (hs : s.ok) (k0 : Nat) (hk : 10 ≤ k0) (l : List FrmV) (hn : l.length ≤ 6000) : ∀ (j i k : Nat) (x : Snd) (T : List Ob), i + j = l.length → j < k → Junk T → x.ok → x.l = s.l → x.N = s.N → ∃ x' : Snd,
    loopL 1 (evL TS k0 q5_4) k [.sl .no 5 l.length (l.flatMap FrmL), .ep (sndC s.N s.l s.R s.B s.X s.W s.O) 0, .ptr 0 0, .int .i64 i] (cellsS x :: T) = some (.ex 0, [], [cellsS x']) ∨
    loopL 1 (evL TS k0 q5_4) k [.sl .no 5 l.length (l.flatMap FrmL), .ep (sndC s.N s.l s.R s.B s.X s.W s.O) 0, .ptr 0 0, .int .i64 i] (cellsS x :: T) = some (.rt, [.bool true], [cellsS x']) := by
  intro j
  induction j with
  | zero =>
    intro i k x T h1 h2 hT hx hl hN
    obtain ⟨k, rfl⟩ : ∃ k', k = k' + 1 := ⟨k - 1, by omega⟩
    have h3 : ¬ (i : Int) < l.length := by omega
    refine ⟨x, .inl ?_⟩
    rw [loopL_succ, hT]
    simp only [q5_4, evL_op, evL_sel, evL_nx, evL_exit, evL_ret, evL_join, evL_block, evL_cond, evK_some, evJ_nx, evJ_rt, evJ_ex, evB_nx, evB_rt, evB_ex, evC2_bool, evS_and, evS_or, evS_tf, evS_ft, ev_t, ev_s, ev_c, evalOp, bin_add, bin_sub, bin_mul, bin_eql, bin_neq, bin_lss, bin_leq, bin_gtr, bin_geq, sbin_eql, sbin_neq, b8, List.map_cons, List.map_nil, PV.rens, PV.ren, if_true, if_false, Bool.false_eq_true, reduceIte, Nat.reduceAdd, Nat.reduceSub, Nat.reduceMul, Nat.reduceEqDiff, Nat.reduceLeDiff, Int.reduceLE, Int.reduceLT, Int.reduceEq, Int.reduceToNat, Int.reduceAdd, Int.reduceSub, Int.reduceNeg, decide_true, decide_false, Bool.not_true, Bool.not_false, Bool.true_and, Bool.false_and, Bool.and_true, Bool.and_false, Bool.or_true, Bool.true_or, Bool.or_false, Bool.false_or, and_self, and_true, true_and, Nat.le_refl, Nat.zero_add, Nat.mul_one, Nat.one_ne_zero, Nat.zero_le, highP, lowP, Option.map_some, Option.map_none, List.drop_zero, List.take_zero, List.length_cons, List.length_nil, List.nil_append, List.append_nil, List.cons_append, fillP, PV.cells?, PV.one, PV.cleans, PV.clean, PV.of?, List.all_cons, List.all_nil, List.take_succ_cons, List.drop_succ_cons, Bool.and_self, Int.natCast_nonneg, Int.toNat_natCast, Int.toNat_zero, h3]
  | succ j ih =>
    intro i k x T h1 h2 hT hx hl hN
    obtain ⟨k, rfl⟩ : ∃ k', k = k' + 1 := ⟨k - 1, by omega⟩
    have hi : i < l.length := by omega
    obtain ⟨r, hr, h⟩ := body_stays s x hl hN hs hx k0 hk (l.flatMap FrmL) l.length i hi hn l[i] (get5 FrmL (fun _ => rfl) l i hi)
    rw [loopL_succ, hT]
    dsimp only
    rw [hr]
    rcases h with rfl | ⟨x', T', hT', hx', hl', hN', rfl⟩
    · exact ⟨x, .inr rfl⟩
    · exact ih (i + 1) k x' T' (by omega) (by omega) hT' hx' hl' hN'
theorem lawSenderStays (p : SndV) (hp : SndQ p) (l : List FrmV) (hq : l.length ≤ room ∧ ∀ y ∈ l, (Lit.int .i64 y.1).wf = true ∧ (Lit.int .i64 y.2.1).wf = true ∧ (Lit.int .i64 y.2.2.1).wf = true ∧ (Lit.int .i64 y.2.2.2.1).wf = true ∧ y.2.2.2.2.length ≤ room ∧ ∀ c ∈ y.2.2.2.2, True) :
    evT lt ov 5 [SndM p, .sl .no 5 l.length (l.flatMap FrmL)] [] = some (.bool true, []) := by
  have hlr : p.2.1.length ≤ room := hp.2.1.1
  generalize hs : sndOf p = s
  have hM : SndM p = s.pv := by rw [← hs]; rfl
  have hl : s.l.length ≤ room := by rw [← hs]; exact hlr
  rw [hM]
  clear hM hp hlr hs p hq
  unfold room at hl
  have fin : ∀ {k : Nat} {H : Hp}, evL TS k q5 [s.pv, .sl .no 5 l.length (l.flatMap FrmL)] [] = some (.rt, [.bool true], H) → TS 5 [s.pv, .sl .no 5 l.length (l.flatMap FrmL)] [] = some (.bool true, []) := fun {k H} h =>
    evT_of (k := k) (F := l5) (H' := H) (e := [.bool true]) (l := [.bool true]) rfl rfl rfl h rfl rfl
  have c1 : TS 10 [sndP s.N s.l s.R s.B s.X s.W s.O] [] = _ := T_refSend s (by omega)
  by_cases h1 : (5100 : Int) < s.l.length
  · refine fin (k := 0) (H := []) ?_
    cases hb : decide s.ok <;> rw [hb] at c1 <;> simp only [q5, evL_op, evL_sel, evL_nx, evL_exit, evL_ret, evL_join, evL_block, evL_cond, evK_some, evJ_nx, evJ_rt, evJ_ex, evB_nx, evB_rt, evB_ex, evC2_bool, evS_and, evS_or, evS_tf, evS_ft, ev_t, ev_s, ev_c, evalOp, bin_add, bin_sub, bin_mul, bin_eql, bin_neq, bin_lss, bin_leq, bin_gtr, bin_geq, sbin_eql, sbin_neq, b8, List.map_cons, List.map_nil, PV.rens, PV.ren, if_true, if_false, Bool.false_eq_true, reduceIte, Nat.reduceAdd, Nat.reduceSub, Nat.reduceMul, Nat.reduceEqDiff, Nat.reduceLeDiff, Int.reduceLE, Int.reduceLT, Int.reduceEq, Int.reduceToNat, Int.reduceAdd, Int.reduceSub, Int.reduceNeg, decide_true, decide_false, Bool.not_true, Bool.not_false, Bool.true_and, Bool.false_and, Bool.and_true, Bool.and_false, Bool.or_true, Bool.true_or, Bool.or_false, Bool.false_or, and_self, and_true, true_and, Nat.le_refl, Nat.zero_add, Nat.mul_one, Nat.one_ne_zero, Nat.zero_le, highP, lowP, Option.map_some, Option.map_none, List.drop_zero, List.take_zero, List.length_cons, List.length_nil, List.nil_append, List.append_nil, List.cons_append, fillP, PV.cells?, PV.one, PV.cleans, PV.clean, PV.of?, List.all_cons, List.all_nil, List.take_succ_cons, List.drop_succ_cons, Bool.and_self, Int.natCast_nonneg, Int.toNat_natCast, Int.toNat_zero, Tk.ren, PV.of?, h1, c1]
  by_cases h2 : (40 : Int) < l.length
  · refine fin (k := 0) (H := []) ?_
    cases hb : decide s.ok <;> rw [hb] at c1 <;> simp only [q5, evL_op, evL_sel, evL_nx, evL_exit, evL_ret, evL_join, evL_block, evL_cond, evK_some, evJ_nx, evJ_rt, evJ_ex, evB_nx, evB_rt, evB_ex, evC2_bool, evS_and, evS_or, evS_tf, evS_ft, ev_t, ev_s, ev_c, evalOp, bin_add, bin_sub, bin_mul, bin_eql, bin_neq, bin_lss, bin_leq, bin_gtr, bin_geq, sbin_eql, sbin_neq, b8, List.map_cons, List.map_nil, PV.rens, PV.ren, if_true, if_false, Bool.false_eq_true, reduceIte, Nat.reduceAdd, Nat.reduceSub, Nat.reduceMul, Nat.reduceEqDiff, Nat.reduceLeDiff, Int.reduceLE, Int.reduceLT, Int.reduceEq, Int.reduceToNat, Int.reduceAdd, Int.reduceSub, Int.reduceNeg, decide_true, decide_false, Bool.not_true, Bool.not_false, Bool.true_and, Bool.false_and, Bool.and_true, Bool.and_false, Bool.or_true, Bool.true_or, Bool.or_false, Bool.false_or, and_self, and_true, true_and, Nat.le_refl, Nat.zero_add, Nat.mul_one, Nat.one_ne_zero, Nat.zero_le, highP, lowP, Option.map_some, Option.map_none, List.drop_zero, List.take_zero, List.length_cons, List.length_nil, List.nil_append, List.append_nil, List.cons_append, fillP, PV.cells?, PV.one, PV.cleans, PV.clean, PV.of?, List.all_cons, List.all_nil, List.take_succ_cons, List.drop_succ_cons, Bool.and_self, Int.natCast_nonneg, Int.toNat_natCast, Int.toNat_zero, Tk.ren, PV.of?, h1, h2, c1]
  have c2 := T_Check s.N s.l s.R s.B s.X s.W s.O
  by_cases h3 : s.ok
  case neg =>
    rw [show okE (RS s.N s.l.length s.R s.B s.X s.W) = 1 from if_neg h3] at c2
    rw [decide_eq_false h3] at c1
    refine fin (k := 0) (H := []) ?_
    simp only [q5, evL_op, evL_sel, evL_nx, evL_exit, evL_ret, evL_join, evL_block, evL_cond, evK_some, evJ_nx, evJ_rt, evJ_ex, evB_nx, evB_rt, evB_ex, evC2_bool, evS_and, evS_or, evS_tf, evS_ft, ev_t, ev_s, ev_c, evalOp, bin_add, bin_sub, bin_mul, bin_eql, bin_neq, bin_lss, bin_leq, bin_gtr, bin_geq, sbin_eql, sbin_neq, b8, List.map_cons, List.map_nil, PV.rens, PV.ren, if_true, if_false, Bool.false_eq_true, reduceIte, Nat.reduceAdd, Nat.reduceSub, Nat.reduceMul, Nat.reduceEqDiff, Nat.reduceLeDiff, Int.reduceLE, Int.reduceLT, Int.reduceEq, Int.reduceToNat, Int.reduceAdd, Int.reduceSub, Int.reduceNeg, decide_true, decide_false, Bool.not_true, Bool.not_false, Bool.true_and, Bool.false_and, Bool.and_true, Bool.and_false, Bool.or_true, Bool.true_or, Bool.or_false, Bool.false_or, and_self, and_true, true_and, Nat.le_refl, Nat.zero_add, Nat.mul_one, Nat.one_ne_zero, Nat.zero_le, highP, lowP, Option.map_some, Option.map_none, List.drop_zero, List.take_zero, List.length_cons, List.length_nil, List.nil_append, List.append_nil, List.cons_append, fillP, PV.cells?, PV.one, PV.cleans, PV.clean, PV.of?, List.all_cons, List.all_nil, List.take_succ_cons, List.drop_succ_cons, Bool.and_self, Int.natCast_nonneg, Int.toNat_natCast, Int.toNat_zero, Tk.ren, PV.of?, h1, h2, c1, c2]
  rw [show okE (RS s.N s.l.length s.R s.B s.X s.W) = 0 from if_pos h3] at c2
  obtain ⟨x', h4⟩ := loop_stays s h3 100 (by decide) l (by omega) l.length 0 100 s [] (by omega) (by omega) junk0 h3 rfl rfl
  have o0 : ((0 : Nat) : Int) = 0 := rfl
  rw [o0] at h4
  refine fin (k := 100) (H := [cellsS x']) ?_
  rcases h4 with h4 | h4
  · simp only [q5, evL_op, evL_sel, evL_nx, evL_exit, evL_ret, evL_join, evL_block, evL_cond, evK_some, evJ_nx, evJ_rt, evJ_ex, evB_nx, evB_rt, evB_ex, evC2_bool, evS_and, evS_or, evS_tf, evS_ft, ev_t, ev_s, ev_c, evalOp, bin_add, bin_sub, bin_mul, bin_eql, bin_neq, bin_lss, bin_leq, bin_gtr, bin_geq, sbin_eql, sbin_neq, b8, List.map_cons, List.map_nil, PV.rens, PV.ren, if_true, if_false, Bool.false_eq_true, reduceIte, Nat.reduceAdd, Nat.reduceSub, Nat.reduceMul, Nat.reduceEqDiff, Nat.reduceLeDiff, Int.reduceLE, Int.reduceLT, Int.reduceEq, Int.reduceToNat, Int.reduceAdd, Int.reduceSub, Int.reduceNeg, decide_true, decide_false, Bool.not_true, Bool.not_false, Bool.true_and, Bool.false_and, Bool.and_true, Bool.and_false, Bool.or_true, Bool.true_or, Bool.or_false, Bool.false_or, and_self, and_true, true_and, Nat.le_refl, Nat.zero_add, Nat.mul_one, Nat.one_ne_zero, Nat.zero_le, highP, lowP, Option.map_some, Option.map_none, List.drop_zero, List.take_zero, List.length_cons, List.length_nil, List.nil_append, List.append_nil, List.cons_append, fillP, PV.cells?, PV.one, PV.cleans, PV.clean, PV.of?, List.all_cons, List.all_nil, List.take_succ_cons, List.drop_succ_cons, Bool.and_self, Int.natCast_nonneg, Int.toNat_natCast, Int.toNat_zero, Tk.ren, PV.of?, h1, h2, c2, evL_loop, List.getElem?_cons_zero, List.getElem?_cons_succ, List.set_cons_zero, List.set_cons_succ]
    rw [h4]
    simp only [q5_5, evL_op, evL_sel, evL_nx, evL_exit, evL_ret, evL_join, evL_block, evL_cond, evK_some, evJ_nx, evJ_rt, evJ_ex, evB_nx, evB_rt, evB_ex, evC2_bool, evS_and, evS_or, evS_tf, evS_ft, ev_t, ev_s, ev_c, evalOp, bin_add, bin_sub, bin_mul, bin_eql, bin_neq, bin_lss, bin_leq, bin_gtr, bin_geq, sbin_eql, sbin_neq, b8, List.map_cons, List.map_nil, PV.rens, PV.ren, if_true, if_false, Bool.false_eq_true, reduceIte, Nat.reduceAdd, Nat.reduceSub, Nat.reduceMul, Nat.reduceEqDiff, Nat.reduceLeDiff, Int.reduceLE, Int.reduceLT, Int.reduceEq, Int.reduceToNat, Int.reduceAdd, Int.reduceSub, Int.reduceNeg, decide_true, decide_false, Bool.not_true, Bool.not_false, Bool.true_and, Bool.false_and, Bool.and_true, Bool.and_false, Bool.or_true, Bool.true_or, Bool.or_false, Bool.false_or, and_self, and_true, true_and, Nat.le_refl, Nat.zero_add, Nat.mul_one, Nat.one_ne_zero, Nat.zero_le, highP, lowP, Option.map_some, Option.map_none, List.drop_zero, List.take_zero, List.length_cons, List.length_nil, List.nil_append, List.append_nil, List.cons_append, fillP, PV.cells?, PV.one, PV.cleans, PV.clean, PV.of?, List.all_cons, List.all_nil, List.take_succ_cons, List.drop_succ_cons, Bool.and_self, Int.natCast_nonneg, Int.toNat_natCast, Int.toNat_zero, T_wakes]
  · simp only [q5, evL_op, evL_sel, evL_nx, evL_exit, evL_ret, evL_join, evL_block, evL_cond, evK_some, evJ_nx, evJ_rt, evJ_ex, evB_nx, evB_rt, evB_ex, evC2_bool, evS_and, evS_or, evS_tf, evS_ft, ev_t, ev_s, ev_c, evalOp, bin_add, bin_sub, bin_mul, bin_eql, bin_neq, bin_lss, bin_leq, bin_gtr, bin_geq, sbin_eql, sbin_neq, b8, List.map_cons, List.map_nil, PV.rens, PV.ren, if_true, if_false, Bool.false_eq_true, reduceIte, Nat.reduceAdd, Nat.reduceSub, Nat.reduceMul, Nat.reduceEqDiff, Nat.reduceLeDiff, Int.reduceLE, Int.reduceLT, Int.reduceEq, Int.reduceToNat, Int.reduceAdd, Int.reduceSub, Int.reduceNeg, decide_true, decide_false, Bool.not_true, Bool.not_false, Bool.true_and, Bool.false_and, Bool.and_true, Bool.and_false, Bool.or_true, Bool.true_or, Bool.or_false, Bool.false_or, and_self, and_true, true_and, Nat.le_refl, Nat.zero_add, Nat.mul_one, Nat.one_ne_zero, Nat.zero_le, highP, lowP, Option.map_some, Option.map_none, List.drop_zero, List.take_zero, List.length_cons, List.length_nil, List.nil_append, List.append_nil, List.cons_append, fillP, PV.cells?, PV.one, PV.cleans, PV.clean, PV.of?, List.all_cons, List.all_nil, List.take_succ_cons, List.drop_succ_cons, Bool.and_self, Int.natCast_nonneg, Int.toNat_natCast, Int.toNat_zero, Tk.ren, PV.of?, h1, h2, c2, evL_loop, List.getElem?_cons_zero, List.getElem?_cons_succ, List.set_cons_zero, List.set_cons_succ]
    rw [h4]
    simp only [evL_op, evL_sel, evL_nx, evL_exit, evL_ret, evL_join, evL_block, evL_cond, evK_some, evJ_nx, evJ_rt, evJ_ex, evB_nx, evB_rt, evB_ex, evC2_bool, evS_and, evS_or, evS_tf, evS_ft, ev_t, ev_s, ev_c, evalOp, bin_add, bin_sub, bin_mul, bin_eql, bin_neq, bin_lss, bin_leq, bin_gtr, bin_geq, sbin_eql, sbin_neq, b8, List.map_cons, List.map_nil, PV.rens, PV.ren, if_true, if_false, Bool.false_eq_true, reduceIte, Nat.reduceAdd, Nat.reduceSub, Nat.reduceMul, Nat.reduceEqDiff, Nat.reduceLeDiff, Int.reduceLE, Int.reduceLT, Int.reduceEq, Int.reduceToNat, Int.reduceAdd, Int.reduceSub, Int.reduceNeg, decide_true, decide_false, Bool.not_true, Bool.not_false, Bool.true_and, Bool.false_and, Bool.and_true, Bool.and_false, Bool.or_true, Bool.true_or, Bool.or_false, Bool.false_or, and_self, and_true, true_and, Nat.le_refl, Nat.zero_add, Nat.mul_one, Nat.one_ne_zero, Nat.zero_le, highP, lowP, Option.map_some, Option.map_none, List.drop_zero, List.take_zero, List.length_cons, List.length_nil, List.nil_append, List.append_nil, List.cons_append, fillP, PV.cells?, PV.one, PV.cleans, PV.clean, PV.of?, List.all_cons, List.all_nil, List.take_succ_cons, List.drop_succ_cons, Bool.and_self, Int.natCast_nonneg, Int.toNat_natCast, Int.toNat_zero]
end Go.Proofs.Ytlbajfhioebphaa.Tab
