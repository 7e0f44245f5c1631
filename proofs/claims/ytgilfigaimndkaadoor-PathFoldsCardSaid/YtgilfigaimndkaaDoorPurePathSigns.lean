/- PathSigns: what is left of it, over texts. -/
import Derived.Test.YtgilfigaimndkaaDoorPath5
import Derived.Test.YtgilfigaimndkaaDoorPurePathBack
namespace Go.Proofs.YtgilfigaimndkaaDoor.Tab
set_option linter.all false
open Go Go.RowKit Go.Proofs.YtgilfigaimndkaaDoor.Ev
theorem T17 (n : Bool) (l d : List UInt8) (hl : l.length + d.length < 4294967281) : T 17 [pathV n l d] [] = some (.str (textOf n l d), []) := by
  refine evT_of (k := 0) (F := l17) (H' := [.cells [.bool n, .str l, .str d]]) (e := [.str (textOf n l d)]) (l := [.str (textOf n l d)]) rfl rfl rfl ?_ rfl rfl
  show evL T 0 q17 _ _ = _
  have s1 := sbin_add (s := [60]) (u := l) (by simp only [List.length_cons, List.length_nil]; omega)
  have s2 := sbin_add (s := [60] ++ l) (u := [64]) (by simp only [List.length_append, List.length_cons, List.length_nil]; omega)
  have s3 := sbin_add (s := [60] ++ l ++ [64]) (u := d) (by simp only [List.length_append, List.length_cons, List.length_nil]; omega)
  have s4 := sbin_add (s := [60] ++ l ++ [64] ++ d) (u := [62]) (by simp only [List.length_append, List.length_cons, List.length_nil]; omega)
  simp only [List.cons_append, List.nil_append, List.append_assoc] at s1 s2 s3 s4
  cases n with
  | true => simp only [q17, evL_op, evL_sel, evL_nx, evL_exit, evL_ret, evL_join, evL_block, evL_cond, evK_some, evJ_nx, evJ_rt, evJ_ex, evB_nx, evB_rt, evB_ex, evC2_bool, evS_and, evS_or, evS_tf, evS_ft, ev_t, ev_s, ev_c, evalOp, bin_add, bin_sub, bin_mul, bin_eql, bin_neq, bin_lss, bin_leq, bin_gtr, bin_geq, sbin_eql, sbin_neq, b8, List.map_cons, List.map_nil, PV.rens, PV.ren, if_true, if_false, Bool.false_eq_true, reduceIte, Nat.reduceAdd, Nat.reduceSub, Nat.reduceMul, Nat.reduceEqDiff, Nat.reduceLeDiff, Int.reduceLE, Int.reduceLT, Int.reduceEq, Int.reduceToNat, Int.reduceAdd, Int.reduceSub, Int.reduceNeg, decide_true, decide_false, Bool.not_true, Bool.not_false, Bool.true_and, Bool.false_and, Bool.and_true, Bool.and_false, Bool.or_true, Bool.true_or, Bool.or_false, Bool.false_or, and_self, and_true, true_and, Nat.le_refl, Nat.zero_add, Nat.mul_one, Nat.one_ne_zero, Nat.zero_le, highP, lowP, Option.map_some, Option.map_none, List.drop_zero, List.take_zero, List.length_cons, List.length_nil, List.nil_append, List.append_nil, List.cons_append, fillP, PV.cells?, PV.one, PV.cleans, PV.clean, PV.of?, List.all_cons, List.all_nil, List.take_succ_cons, List.drop_succ_cons, Bool.and_self, Int.natCast_nonneg, Int.toNat_natCast, Int.toNat_zero, List.getElem?_cons_zero, textOf]
  | false => simp only [q17, evL_op, evL_sel, evL_nx, evL_exit, evL_ret, evL_join, evL_block, evL_cond, evK_some, evJ_nx, evJ_rt, evJ_ex, evB_nx, evB_rt, evB_ex, evC2_bool, evS_and, evS_or, evS_tf, evS_ft, ev_t, ev_s, ev_c, evalOp, bin_add, bin_sub, bin_mul, bin_eql, bin_neq, bin_lss, bin_leq, bin_gtr, bin_geq, sbin_eql, sbin_neq, b8, List.map_cons, List.map_nil, PV.rens, PV.ren, if_true, if_false, Bool.false_eq_true, reduceIte, Nat.reduceAdd, Nat.reduceSub, Nat.reduceMul, Nat.reduceEqDiff, Nat.reduceLeDiff, Int.reduceLE, Int.reduceLT, Int.reduceEq, Int.reduceToNat, Int.reduceAdd, Int.reduceSub, Int.reduceNeg, decide_true, decide_false, Bool.not_true, Bool.not_false, Bool.true_and, Bool.false_and, Bool.and_true, Bool.and_false, Bool.or_true, Bool.true_or, Bool.or_false, Bool.false_or, and_self, and_true, true_and, Nat.le_refl, Nat.zero_add, Nat.mul_one, Nat.one_ne_zero, Nat.zero_le, highP, lowP, Option.map_some, Option.map_none, List.drop_zero, List.take_zero, List.length_cons, List.length_nil, List.nil_append, List.append_nil, List.cons_append, fillP, PV.cells?, PV.one, PV.cleans, PV.clean, PV.of?, List.all_cons, List.all_nil, List.take_succ_cons, List.drop_succ_cons, Bool.and_self, Int.natCast_nonneg, Int.toNat_natCast, Int.toNat_zero, List.getElem?_cons_zero, textOf, s1, s2, s3, s4]
theorem parse_head {s : List UInt8} (h : s.head? ≠ some 60) : parseOk s = false := by
  have h0 : ¬ s = [60, 62] := fun e => h (by rw [e]; rfl)
  have : (cutP s 60).2 = false := by unfold cutP; rw [if_neg h]
  simp [parseOk, h0, innerOk, this]
theorem parse_last {s : List UInt8} (h : s.getLast? ≠ some 62) (h1 : 2 ≤ s.length) : parseOk s = false := by
  have h0 : ¬ s = [60, 62] := fun e => h (by rw [e]; rfl)
  have : (cutS (cutP s 60).1 62).2 = false := by
    unfold cutS cutP
    split
    · rename_i hh
      have : s.tail.getLast? = s.getLast? := by
        cases s with
        | nil => simp at h1
        | cons a r => cases r with
          | nil => simp at h1
          | cons b r => simp [List.getLast?_cons_cons]
      rw [if_neg (by simp only; rw [this]; exact h)]
    · rfl
  simp [parseOk, h0, innerOk, this]
/-- What stands between brackets is cut at its first sign. -/
theorem parse_in {b : List UInt8} (hb : b ≠ []) : parseOk (60 :: (b ++ [62])) = ((cutA b 64).2.2 && pathOk false (cutA b 64).1 (cutA b 64).2.1) := by
  have h0 : ¬ (60 :: (b ++ [62]) : List UInt8) = [60, 62] := fun e => hb (by simpa using e)
  have c1 : cutP (60 :: (b ++ [62])) 60 = (b ++ [62], true) := by simp [cutP]
  have c2 : cutS (b ++ [62]) 62 = (b, true) := by unfold cutS; rw [if_pos List.getLast?_concat, List.dropLast_concat]
  have hin : inner (60 :: (b ++ [62])) = ((cutA b 64).1, (cutA b 64).2.1) := by unfold inner; rw [c1, c2]
  unfold parseOk innerOk
  rw [hin, c1, c2]
  simp [h0]
theorem cutA_no {b : List UInt8} (h : 64 ∉ b) : (cutA b 64).2.2 = false := by unfold cutA; rw [if_neg h]
theorem cutA_at {x y : List UInt8} (h : 64 ∉ x) : cutA (x ++ 64 :: y) 64 = (x, y, true) := by
  have hne : ∀ z ∈ x, (z != 64) = true := fun z hz => by simp; intro e; subst e; exact h hz
  unfold cutA
  rw [if_pos (by simp), List.takeWhile_append_of_pos hne, List.dropWhile_append_of_pos hne]
  simp
theorem local_chars {l : List UInt8} (h : parts l 64 atom = true) (c : UInt8) (hc : c ∈ l) : atomC c = true ∨ c = 46 := by
  simp only [parts, Bool.and_eq_true] at h
  exact split_chars atomC l (List.all_eq_true.2 fun x hx => atom_chars (List.all_eq_true.1 h.2 x hx)) c hc
theorem domain_chars {d : List UInt8} (h : parts d 255 label = true) (c : UInt8) (hc : c ∈ d) : labelC c = true ∨ c = 46 := by
  simp only [parts, Bool.and_eq_true] at h
  exact split_chars labelC d (List.all_eq_true.2 fun x hx => label_chars (List.all_eq_true.1 h.2 x hx)) c hc
section
variable {l d : List UInt8} (hl : parts l 64 atom = true) (hd : parts d 255 label = true)
include hl hd
theorem l_ne : l ≠ [] := fun e => by rw [e] at hl; exact absurd hl (by decide)
theorem d_ne : d ≠ [] := fun e => by rw [e] at hd; exact absurd hd (by decide)
theorem l_not (c : UInt8) (h : atomC c = false) (h2 : c ≠ 46) : c ∉ l := fun hc => by
  rcases local_chars hl c hc with h3 | h3
  · rw [h] at h3; cases h3
  · exact h2 h3
theorem d_not (c : UInt8) (h : labelC c = false) (h2 : c ≠ 46) : c ∉ d := fun hc => by
  rcases domain_chars hd c hc with h3 | h3
  · rw [h] at h3; cases h3
  · exact h2 h3
theorem bad1 : parseOk (l ++ 64 :: (d ++ [62])) = false := by
  refine parse_head fun h => ?_
  cases hl' : l with
  | nil => exact l_ne hl hd hl'
  | cons a r =>
    rw [hl'] at h
    have : a = 60 := by simpa using h
    exact l_not hl hd 60 (by decide) (by decide) (by rw [hl', this]; simp)
theorem bad2 : parseOk (60 :: (l ++ 64 :: d)) = false := by
  refine parse_last (fun h => ?_) (by simp; omega)
  rcases List.eq_nil_or_concat d with hd' | ⟨r, z, hd'⟩
  · exact d_ne hl hd hd'
  · rw [List.concat_eq_append] at hd'
    have e : 60 :: (l ++ 64 :: d) = (60 :: (l ++ 64 :: r)) ++ [z] := by rw [hd']; simp
    rw [e, List.getLast?_concat] at h
    exact d_not hl hd 62 (by decide) (by decide) (by rw [hd', Option.some.inj h]; simp)
theorem bad3 : parseOk (60 :: (60 :: (l ++ 64 :: d) ++ [62])) = false := by
  rw [parse_in (by simp)]
  have e : 60 :: (l ++ 64 :: d) = (60 :: l) ++ 64 :: d := by simp
  rw [e, cutA_at (by simp; exact l_not hl hd 64 (by decide) (by decide))]
  have : parts (60 :: l) 64 atom = false := Bool.eq_false_iff.2 fun h => by
    rcases local_chars h 60 (by simp) with h3 | h3 <;> exact absurd h3 (by decide)
  simp [pathOk, this]
theorem bad4 : parseOk (60 :: (l ++ 64 :: (d ++ [62]) ++ [62])) = false := by
  rw [parse_in (by simp), cutA_at (l_not hl hd 64 (by decide) (by decide))]
  have : parts (d ++ [62]) 255 label = false := Bool.eq_false_iff.2 fun h => by
    rcases domain_chars h 62 (by simp) with h3 | h3 <;> exact absurd h3 (by decide)
  simp [pathOk, this]
theorem bad5 (t : List UInt8) : parseOk (32 :: t) = false := parse_head (by simp)
theorem bad6 : parseOk (60 :: (l ++ d ++ [62])) = false := by
  rw [parse_in (by simp [l_ne hl hd]), cutA_no (by simp; exact ⟨l_not hl hd 64 (by decide) (by decide), d_not hl hd 64 (by decide) (by decide)⟩)]
  rfl
theorem bad7 : parseOk (60 :: (l ++ 64 :: 64 :: d ++ [62])) = false := by
  rw [parse_in (by simp), cutA_at (l_not hl hd 64 (by decide) (by decide))]
  have : parts (64 :: d) 255 label = false := Bool.eq_false_iff.2 fun h => by
    rcases domain_chars h 64 (by simp) with h3 | h3 <;> exact absurd h3 (by decide)
  simp [pathOk, this]
theorem bad8 : parseOk (60 :: (64 :: d ++ [62])) = false := by
  rw [parse_in (by simp)]
  have e : 64 :: d = ([] : List UInt8) ++ 64 :: d := rfl
  rw [e, cutA_at (by simp)]
  have : parts [] 64 atom = false := by decide
  simp [pathOk, this]
theorem bad9 : parseOk (60 :: (l ++ [64] ++ [62])) = false := by
  rw [parse_in (by simp)]
  rw [cutA_at (y := []) (l_not hl hd 64 (by decide) (by decide))]
  have : parts [] 255 label = false := by decide
  simp [pathOk, this]
end
abbrev Hs (l d q : List UInt8) : Hp := [.cells [.bool false, .str l, .str d], .cells [.bool false, .str q, .str [120]]]
abbrev Hz (l d q : List UInt8) : Hp := [.cells [.bool false, .str l, .str d], .cells [.bool false, .str q, .str [120]], .cells [.bool false, .str [], .str []]]
theorem head8 (l d q : List UInt8) (cs : List PV) (n : Nat) (i : Int) : headS 2 [.sl .no 1 n cs, .int .i64 i] (Hs l d q) = ([.sl .no 1 n cs, .int .i64 i], Hs l d q) := rfl
theorem head8' (l d q : List UInt8) (cs : List PV) (n : Nat) (i : Int) : headS 2 [.sl .no 1 n cs, .int .i64 i] (Hz l d q) = ([.sl .no 1 n cs, .int .i64 i], Hs l d q) := rfl
theorem take1' {L : List (List UInt8)} {i : Nat} {s : List UInt8} (h : L[i]? = some s) : ((L.map PV.str).drop i).take 1 = [PV.str s] := by
  have := take1 h
  rwa [Nat.mul_one] at this
theorem body8 (k0 : Nat) (l d q : List UInt8) (L : List (List UInt8)) (hL : L.length ≤ 9000000000000000000) (i : Nat) (s : List UInt8) (hs : L[i]? = some s) (hb : parseOk s = false) (hl : s.length < 4294967281) :
    evL T k0 q8_1 [.sl .no 1 L.length (L.map PV.str), .int .i64 i] (Hs l d q) = some (.nx, [.sl .no 1 L.length (L.map PV.str), .int .i64 (i + 1 : Nat)], Hz l d q) := by
  have hi : i < L.length := (List.getElem?_eq_some_iff.1 hs).1
  have h1 : (i : Int) < L.length := by omega
  have hw : IntKind.i64.wrap ((i : Int) + 1) = ((i + 1 : Nat) : Int) := by rw [IntWalk.i64_in _ (by omega)]; rfl
  have a1 := T9 s hl
  rw [bad_parse hb] at a1
  simp only [hb, Bool.false_eq_true, if_false] at a1
  have a2 := T16 false false [] [] [] []
  have a3 : (false == false && decide (([] : List UInt8) = []) && decide (([] : List UInt8) = [])) = true := rfl
  rw [a3] at a2
  simp only [q8_1, q8_0, evL_op, evL_sel, evL_nx, evL_exit, evL_ret, evL_join, evL_block, evL_cond, evK_some, evJ_nx, evJ_rt, evJ_ex, evB_nx, evB_rt, evB_ex, evC2_bool, evS_and, evS_or, evS_tf, evS_ft, ev_t, ev_s, ev_c, evalOp, bin_add, bin_sub, bin_mul, bin_eql, bin_neq, bin_lss, bin_leq, bin_gtr, bin_geq, sbin_eql, sbin_neq, b8, List.map_cons, List.map_nil, PV.rens, PV.ren, if_true, if_false, Bool.false_eq_true, reduceIte, Nat.reduceAdd, Nat.reduceSub, Nat.reduceMul, Nat.reduceEqDiff, Nat.reduceLeDiff, Int.reduceLE, Int.reduceLT, Int.reduceEq, Int.reduceToNat, Int.reduceAdd, Int.reduceSub, Int.reduceNeg, decide_true, decide_false, Bool.not_true, Bool.not_false, Bool.true_and, Bool.false_and, Bool.and_true, Bool.and_false, Bool.or_true, Bool.true_or, Bool.or_false, Bool.false_or, and_self, and_true, true_and, Nat.le_refl, Nat.zero_add, Nat.mul_one, Nat.one_ne_zero, Nat.zero_le, highP, lowP, Option.map_some, Option.map_none, List.drop_zero, List.take_zero, List.length_cons, List.length_nil, List.nil_append, List.append_nil, List.cons_append, fillP, PV.cells?, PV.one, PV.cleans, PV.clean, PV.of?, List.all_cons, List.all_nil, List.take_succ_cons, List.drop_succ_cons, Bool.and_self, Int.natCast_nonneg, Int.toNat_natCast, Int.toNat_zero, h1, take1' hs, a1, a2, hw, List.getElem?_cons_zero, List.getElem?_cons_succ, List.set_cons_zero, List.set_cons_succ]
theorem loop8 (k0 : Nat) (l d q : List UInt8) (L : List (List UInt8)) (hL : L.length ≤ 9000000000000000000) (hb : ∀ s ∈ L, parseOk s = false ∧ s.length < 4294967281) : ∀ (j i : Nat) (H : Hp), i + j = L.length → (H = Hs l d q ∨ H = Hz l d q) → ∀ k, j < k →
    loopL 2 (evL T k0 q8_1) k [.sl .no 1 L.length (L.map PV.str), .int .i64 i] H = some (.ex 0, [], Hs l d q)
  | j, i, H, hij, _, 0, hk => by omega
  | j, i, H, hij, hH, k + 1, hk => by
    have hh : headS 2 [.sl .no 1 L.length (L.map PV.str), .int .i64 i] H = ([.sl .no 1 L.length (L.map PV.str), .int .i64 i], Hs l d q) := by
      rcases hH with rfl | rfl
      · exact head8 ..
      · exact head8' ..
    rw [loopL_succ, hh]
    match j, hij, hk with
    | 0, hij, _ =>
      have h1 : ¬ ((i : Int) < L.length) := by omega
      have h3 : evL T k0 q8_1 [.sl .no 1 L.length (L.map PV.str), .int .i64 i] (Hs l d q) = some (.ex 0, [], Hs l d q) := by simp only [q8_1, evL_op, evL_sel, evL_nx, evL_exit, evL_ret, evL_join, evL_block, evL_cond, evK_some, evJ_nx, evJ_rt, evJ_ex, evB_nx, evB_rt, evB_ex, evC2_bool, evS_and, evS_or, evS_tf, evS_ft, ev_t, ev_s, ev_c, evalOp, bin_add, bin_sub, bin_mul, bin_eql, bin_neq, bin_lss, bin_leq, bin_gtr, bin_geq, sbin_eql, sbin_neq, b8, List.map_cons, List.map_nil, PV.rens, PV.ren, if_true, if_false, Bool.false_eq_true, reduceIte, h1, decide_false]
      rw [h3]
    | j + 1, hij, hk =>
      have hi : i < L.length := by omega
      obtain ⟨b1, b2⟩ := hb L[i] (List.getElem_mem hi)
      rw [body8 k0 l d q L hL i L[i] (List.getElem?_eq_getElem hi) b1 b2]
      exact loop8 k0 l d q L hL hb j (i + 1) _ (by omega) (.inr rfl) k (by omega)
theorem lawPathSigns (c : UInt8) (p : Bool × List UInt8 × List UInt8) (hp : True ∧ p.2.1.length ≤ room ∧ p.2.2.length ≤ room) : evT lt ov 8 [.int .u8 c.toNat, .agg ([.bool p.1] ++ ([.str p.2.1] ++ [.str p.2.2]))] [] = some (.bool true, []) := by
  obtain ⟨n, l, d⟩ := p
  obtain ⟨_, hl, hd⟩ := hp
  simp only at hl hd
  unfold room at hl hd
  show evT lt ov 8 [.int .u8 c.toNat, pathV n l d] [] = _
  have w1 : IntKind.i64.wrap ((l.length : Int) + d.length) = (l.length : Int) + d.length := IntWalk.i64_in _ (by omega)
  have fin : ∀ {H : Hp}, evL T 10 q8 [.int .u8 c.toNat, pathV n l d] [] = some (.rt, [.bool true], H) → evT lt ov 8 [.int .u8 c.toNat, pathV n l d] [] = some (.bool true, []) := fun {H} h =>
    evT_of (k := 10) (F := l8) (H' := H) (e := [.bool true]) (l := [.bool true]) rfl rfl rfl h rfl rfl
  have a1 := T12 n l d (by omega) (by omega)
  by_cases hlen : (300 : Int) < (l.length : Int) + d.length
  · refine fin (H := [.cells [.bool n, .str l, .str d]]) ?_
    simp only [q8, evL_op, evL_sel, evL_nx, evL_exit, evL_ret, evL_join, evL_block, evL_cond, evK_some, evJ_nx, evJ_rt, evJ_ex, evB_nx, evB_rt, evB_ex, evC2_bool, evS_and, evS_or, evS_tf, evS_ft, ev_t, ev_s, ev_c, evalOp, bin_add, bin_sub, bin_mul, bin_eql, bin_neq, bin_lss, bin_leq, bin_gtr, bin_geq, sbin_eql, sbin_neq, b8, List.map_cons, List.map_nil, PV.rens, PV.ren, if_true, if_false, Bool.false_eq_true, reduceIte, Nat.reduceAdd, Nat.reduceSub, Nat.reduceMul, Nat.reduceEqDiff, Nat.reduceLeDiff, Int.reduceLE, Int.reduceLT, Int.reduceEq, Int.reduceToNat, Int.reduceAdd, Int.reduceSub, Int.reduceNeg, decide_true, decide_false, Bool.not_true, Bool.not_false, Bool.true_and, Bool.false_and, Bool.and_true, Bool.and_false, Bool.or_true, Bool.true_or, Bool.or_false, Bool.false_or, and_self, and_true, true_and, Nat.le_refl, Nat.zero_add, Nat.mul_one, Nat.one_ne_zero, Nat.zero_le, highP, lowP, Option.map_some, Option.map_none, List.drop_zero, List.take_zero, List.length_cons, List.length_nil, List.nil_append, List.append_nil, List.cons_append, fillP, PV.cells?, PV.one, PV.cleans, PV.clean, PV.of?, List.all_cons, List.all_nil, List.take_succ_cons, List.drop_succ_cons, Bool.and_self, Int.natCast_nonneg, Int.toNat_natCast, Int.toNat_zero, w1, hlen, List.getElem?_cons_zero]
  · cases hok : pathOk n l d with
    | false =>
      rw [hok] at a1
      refine fin (H := [.cells [.bool n, .str l, .str d]]) ?_
      simp only [q8, evL_op, evL_sel, evL_nx, evL_exit, evL_ret, evL_join, evL_block, evL_cond, evK_some, evJ_nx, evJ_rt, evJ_ex, evB_nx, evB_rt, evB_ex, evC2_bool, evS_and, evS_or, evS_tf, evS_ft, ev_t, ev_s, ev_c, evalOp, bin_add, bin_sub, bin_mul, bin_eql, bin_neq, bin_lss, bin_leq, bin_gtr, bin_geq, sbin_eql, sbin_neq, b8, List.map_cons, List.map_nil, PV.rens, PV.ren, if_true, if_false, Bool.false_eq_true, reduceIte, Nat.reduceAdd, Nat.reduceSub, Nat.reduceMul, Nat.reduceEqDiff, Nat.reduceLeDiff, Int.reduceLE, Int.reduceLT, Int.reduceEq, Int.reduceToNat, Int.reduceAdd, Int.reduceSub, Int.reduceNeg, decide_true, decide_false, Bool.not_true, Bool.not_false, Bool.true_and, Bool.false_and, Bool.and_true, Bool.and_false, Bool.or_true, Bool.true_or, Bool.or_false, Bool.false_or, and_self, and_true, true_and, Nat.le_refl, Nat.zero_add, Nat.mul_one, Nat.one_ne_zero, Nat.zero_le, highP, lowP, Option.map_some, Option.map_none, List.drop_zero, List.take_zero, List.length_cons, List.length_nil, List.nil_append, List.append_nil, List.cons_append, fillP, PV.cells?, PV.one, PV.cleans, PV.clean, PV.of?, List.all_cons, List.all_nil, List.take_succ_cons, List.drop_succ_cons, Bool.and_self, Int.natCast_nonneg, Int.toNat_natCast, Int.toNat_zero, w1, hlen, a1, List.getElem?_cons_zero]
    | true =>
      rw [hok] at a1
      cases n with
      | true =>
        refine fin (H := [.cells [.bool true, .str l, .str d]]) ?_
        simp only [q8, evL_op, evL_sel, evL_nx, evL_exit, evL_ret, evL_join, evL_block, evL_cond, evK_some, evJ_nx, evJ_rt, evJ_ex, evB_nx, evB_rt, evB_ex, evC2_bool, evS_and, evS_or, evS_tf, evS_ft, ev_t, ev_s, ev_c, evalOp, bin_add, bin_sub, bin_mul, bin_eql, bin_neq, bin_lss, bin_leq, bin_gtr, bin_geq, sbin_eql, sbin_neq, b8, List.map_cons, List.map_nil, PV.rens, PV.ren, if_true, if_false, Bool.false_eq_true, reduceIte, Nat.reduceAdd, Nat.reduceSub, Nat.reduceMul, Nat.reduceEqDiff, Nat.reduceLeDiff, Int.reduceLE, Int.reduceLT, Int.reduceEq, Int.reduceToNat, Int.reduceAdd, Int.reduceSub, Int.reduceNeg, decide_true, decide_false, Bool.not_true, Bool.not_false, Bool.true_and, Bool.false_and, Bool.and_true, Bool.and_false, Bool.or_true, Bool.true_or, Bool.or_false, Bool.false_or, and_self, and_true, true_and, Nat.le_refl, Nat.zero_add, Nat.mul_one, Nat.one_ne_zero, Nat.zero_le, highP, lowP, Option.map_some, Option.map_none, List.drop_zero, List.take_zero, List.length_cons, List.length_nil, List.nil_append, List.append_nil, List.cons_append, fillP, PV.cells?, PV.one, PV.cleans, PV.clean, PV.of?, List.all_cons, List.all_nil, List.take_succ_cons, List.drop_succ_cons, Bool.and_self, Int.natCast_nonneg, Int.toNat_natCast, Int.toNat_zero, w1, hlen, a1, List.getElem?_cons_zero]
      | false =>
        have hpp : parts l 64 atom = true ∧ parts d 255 label = true := by simpa [pathOk] using hok
        obtain ⟨gl, gd⟩ := hpp
        have h8 : bytes8 [.int .u8 c.toNat] = some [c] := bytes8_b8 [c]
        have q1 := sbin_add (s := [97]) (u := [c]) (by simp only [List.length_cons, List.length_nil]; omega)
        have q2 := sbin_add (s := [97, c]) (u := [98]) (by simp only [List.length_cons, List.length_nil]; omega)
        simp only [List.cons_append, List.nil_append] at q1 q2
        have a2 := T13 false [97, c, 98] [120] (by simp only [List.length_cons, List.length_nil]; omega)
        have a3 := T12 false [97, c, 98] [120] (by simp only [List.length_cons, List.length_nil]; omega) (by decide)
        have a4 : ((if pathOk false [97, c, 98] [120] = true then (0 : Int) else 5) = 0) = (pathOk false [97, c, 98] [120] = true) := by cases pathOk false [97, c, 98] [120] <;> simp
        have a5 := T17 false l d (by omega)
        have et : textOf false l d = 60 :: (l ++ 64 :: (d ++ [62])) := rfl
        rw [et] at a5
        have w2 : IntKind.i64.wrap ((((l ++ 64 :: (d ++ [62])).length + 1 : Nat) : Int) - 1) = (((l ++ 64 :: (d ++ [62])).length : Nat) : Int) := by
          rw [IntWalk.i64_in _ (by simp only [List.length_append, List.length_cons, List.length_nil]; omega)]; omega
        have w3 : (((l ++ 64 :: (d ++ [62])).length : Nat) : Int) ≤ (((l ++ 64 :: (d ++ [62])).length + 1 : Nat) : Int) := by omega
        have w4 : (60 :: (l ++ 64 :: (d ++ [62]))).take (l ++ 64 :: (d ++ [62])).length = 60 :: (l ++ 64 :: d) := by
          have e : 60 :: (l ++ 64 :: (d ++ [62])) = (60 :: (l ++ 64 :: d)) ++ [62] := by simp
          rw [e, List.take_append_of_le_length (by simp; omega), List.take_of_length_le (by simp; omega)]
        have w5 : (1 : Nat) ≤ (l ++ 64 :: (d ++ [62])).length + 1 := by omega
        have z0 := sbin_add (s := [60]) (u := (60 :: (l ++ 64 :: (d ++ [62])))) (by simp only [List.length_append, List.length_cons, List.length_nil]; omega)
        have z1 := sbin_add (s := (60 :: (l ++ 64 :: (d ++ [62])))) (u := [62]) (by simp only [List.length_append, List.length_cons, List.length_nil]; omega)
        have z2 := sbin_add (s := [32]) (u := (60 :: (l ++ 64 :: (d ++ [62])))) (by simp only [List.length_append, List.length_cons, List.length_nil]; omega)
        have z3 := sbin_add (s := [60]) (u := l) (by simp only [List.length_append, List.length_cons, List.length_nil]; omega)
        have z4 := sbin_add (s := (60 :: l)) (u := d) (by simp only [List.length_append, List.length_cons, List.length_nil]; omega)
        have z5 := sbin_add (s := (60 :: (l ++ d))) (u := [62]) (by simp only [List.length_append, List.length_cons, List.length_nil]; omega)
        have z6 := sbin_add (s := (60 :: l)) (u := [64, 64]) (by simp only [List.length_append, List.length_cons, List.length_nil]; omega)
        have z7 := sbin_add (s := (60 :: (l ++ [64, 64]))) (u := d) (by simp only [List.length_append, List.length_cons, List.length_nil]; omega)
        have z8 := sbin_add (s := (60 :: (l ++ 64 :: 64 :: d))) (u := [62]) (by simp only [List.length_append, List.length_cons, List.length_nil]; omega)
        have z9 := sbin_add (s := [60, 64]) (u := d) (by simp only [List.length_append, List.length_cons, List.length_nil]; omega)
        have z10 := sbin_add (s := (60 :: 64 :: d)) (u := [62]) (by simp only [List.length_append, List.length_cons, List.length_nil]; omega)
        have z11 := sbin_add (s := (60 :: l)) (u := [64, 62]) (by simp only [List.length_append, List.length_cons, List.length_nil]; omega)
        simp only [List.cons_append, List.nil_append, List.append_assoc] at z0 z1 z2 z3 z4 z5 z6 z7 z8 z9 z10 z11
        have hX2 : ∀ X : Bool, (true ^^ decide (X = true) == X) = false := fun X => by cases X <;> rfl
        refine fin (H := Hs l d [97, c, 98]) ?_
        have hl := loop8 10 l d [97, c, 98] [l ++ 64 :: (d ++ [62]), 60 :: (l ++ 64 :: d), 60 :: 60 :: (l ++ 64 :: (d ++ [62])), 60 :: (l ++ 64 :: (d ++ [62, 62])), 32 :: 60 :: (l ++ 64 :: (d ++ [62])), 60 :: (l ++ (d ++ [62])), 60 :: (l ++ 64 :: 64 :: (d ++ [62])), 60 :: 64 :: (d ++ [62]), 60 :: (l ++ [64, 62])] (by simp only [List.length_cons, List.length_nil]; omega) (fun s hs => by
          have b1 := bad1 gl gd
          have b2 := bad2 gl gd
          have b3 := bad3 gl gd
          have b4 := bad4 gl gd
          have b5 := bad5 gl gd (60 :: (l ++ 64 :: (d ++ [62])))
          have b6 := bad6 gl gd
          have b7 := bad7 gl gd
          have b8' := bad8 gl gd
          have b9 := bad9 gl gd
          simp only [List.cons_append, List.nil_append, List.append_assoc] at b3 b4 b6 b7 b8' b9
          simp only [List.mem_cons, List.not_mem_nil, or_false] at hs
          rcases hs with rfl | rfl | rfl | rfl | rfl | rfl | rfl | rfl | rfl <;> (constructor; first | assumption | (simp only [List.length_append, List.length_cons, List.length_nil]; omega)) <;> (simp only [List.length_append, List.length_cons, List.length_nil]; omega)) 9 0 (Hs l d [97, c, 98]) rfl (.inl rfl) 10 (by omega)
        simp only [List.map_cons, List.map_nil, List.length_cons, List.length_nil, Nat.reduceAdd] at hl
        simp only [q8, evL_op, evL_sel, evL_nx, evL_exit, evL_ret, evL_join, evL_block, evL_cond, evK_some, evJ_nx, evJ_rt, evJ_ex, evB_nx, evB_rt, evB_ex, evC2_bool, evS_and, evS_or, evS_tf, evS_ft, ev_t, ev_s, ev_c, evalOp, bin_add, bin_sub, bin_mul, bin_eql, bin_neq, bin_lss, bin_leq, bin_gtr, bin_geq, sbin_eql, sbin_neq, b8, List.map_cons, List.map_nil, PV.rens, PV.ren, if_true, if_false, Bool.false_eq_true, reduceIte, Nat.reduceAdd, Nat.reduceSub, Nat.reduceMul, Nat.reduceEqDiff, Nat.reduceLeDiff, Int.reduceLE, Int.reduceLT, Int.reduceEq, Int.reduceToNat, Int.reduceAdd, Int.reduceSub, Int.reduceNeg, decide_true, decide_false, Bool.not_true, Bool.not_false, Bool.true_and, Bool.false_and, Bool.and_true, Bool.and_false, Bool.or_true, Bool.true_or, Bool.or_false, Bool.false_or, and_self, and_true, true_and, Nat.le_refl, Nat.zero_add, Nat.mul_one, Nat.one_ne_zero, Nat.zero_le, highP, lowP, Option.map_some, Option.map_none, List.drop_zero, List.take_zero, List.length_cons, List.length_nil, List.nil_append, List.append_nil, List.cons_append, fillP, PV.cells?, PV.one, PV.cleans, PV.clean, PV.of?, List.all_cons, List.all_nil, List.take_succ_cons, List.drop_succ_cons, Bool.and_self, Int.natCast_nonneg, Int.toNat_natCast, Int.toNat_zero, w1, hlen, a1, List.getElem?_cons_zero, List.getElem?_cons_succ, List.set_cons_zero, List.set_cons_succ, h8, q1, q2, a2, a3, a4, a5, w2, w3, w4, w5, List.take_length, decide_eq_true_eq, hX2, z0, z1, z2, z3, z4, z5, z6, z7, z8, z9, z10, z11, evL_loop, List.append_assoc]
        have e0 : ((0 : Nat) : Int) = 0 := rfl
        rw [e0] at hl
        rw [hl]
        simp only [q8_2, evL_op, evL_sel, evL_nx, evL_exit, evL_ret, evL_join, evL_block, evL_cond, evK_some, evJ_nx, evJ_rt, evJ_ex, evB_nx, evB_rt, evB_ex, evC2_bool, evS_and, evS_or, evS_tf, evS_ft, ev_t, ev_s, ev_c, evalOp, bin_add, bin_sub, bin_mul, bin_eql, bin_neq, bin_lss, bin_leq, bin_gtr, bin_geq, sbin_eql, sbin_neq, b8, List.map_cons, List.map_nil, PV.rens, PV.ren, if_true, if_false, Bool.false_eq_true, reduceIte, Nat.reduceAdd, Nat.reduceSub, Nat.reduceMul, Nat.reduceEqDiff, Nat.reduceLeDiff, Int.reduceLE, Int.reduceLT, Int.reduceEq, Int.reduceToNat, Int.reduceAdd, Int.reduceSub, Int.reduceNeg, decide_true, decide_false, Bool.not_true, Bool.not_false, Bool.true_and, Bool.false_and, Bool.and_true, Bool.and_false, Bool.or_true, Bool.true_or, Bool.or_false, Bool.false_or, and_self, and_true, true_and, Nat.le_refl, Nat.zero_add, Nat.mul_one, Nat.one_ne_zero, Nat.zero_le, highP, lowP, Option.map_some, Option.map_none, List.drop_zero, List.take_zero, List.length_cons, List.length_nil, List.nil_append, List.append_nil, List.cons_append, fillP, PV.cells?, PV.one, PV.cleans, PV.clean, PV.of?, List.all_cons, List.all_nil, List.take_succ_cons, List.drop_succ_cons, Bool.and_self, Int.natCast_nonneg, Int.toNat_natCast, Int.toNat_zero, T24]
end Go.Proofs.YtgilfigaimndkaaDoor.Tab
