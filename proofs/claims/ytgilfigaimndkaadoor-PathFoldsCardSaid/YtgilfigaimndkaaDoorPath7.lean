/- Chapter 11: the document's answer's Parse is Parse. -/
import Derived.Test.YtgilfigaimndkaaDoorPath6
namespace Go.Proofs.YtgilfigaimndkaaDoor.Tab
set_option linter.all false
open Go Go.RowKit Go.Proofs.YtgilfigaimndkaaDoor.Ev
/-- Between brackets. -/
theorem T10_in (b : List UInt8) (hb : b ≠ []) (hl : b.length ≤ 4000000000) : T 10 [.str (60 :: (b ++ [62]))] [] = some (.tup [parseV (60 :: (b ++ [62])), .bool (parseOk (60 :: (b ++ [62])))], []) := by
  have h0 : ¬ (60 :: (b ++ [62]) : List UInt8) = [60, 62] := fun e => hb (by simpa using e)
  have hlen : (60 :: (b ++ [62])).length = b.length + 2 := by simp
  have n1 : ¬ (((b.length + 2 : Nat) : Int) < 2) := by omega
  have i0 : (60 :: (b ++ [62]))[Int.toNat 0]? = some 60 := rfl
  have w1 : IntKind.i64.wrap (((b.length + 2 : Nat) : Int) - 1) = ((b.length + 1 : Nat) : Int) := by rw [IntWalk.i64_in _ (by omega)]; omega
  have i1 : (60 :: (b ++ [62]))[b.length + 1]? = some 62 := by simp
  have t1 : ((60 :: (b ++ [62])).take (b.length + 1)).drop 1 = b := by simp
  have b1 : ((b.length + 1 : Nat) : Int) ≤ ((b.length + 2 : Nat) : Int) := by omega
  have b2 : 1 ≤ b.length + 1 := by omega
  have hq : ∀ k0, evL T k0 q10 [.str (60 :: (b ++ [62]))] [] = evJ T k0 q10_2 (evB 0 (loopL 1 (evL T k0 q10_1) k0 [.str b, .ptr 0 0, .int .i64 (0 : Nat)] H0)) := fun k0 => by
    have e0 : ((0 : Nat) : Int) = 0 := rfl
    have e1 : decide (((60 : UInt8).toNat : Int) = 60) = true := rfl
    have e2 : decide (((62 : UInt8).toNat : Int) = 62) = true := rfl
    have e3 : Int.toNat 1 = 1 := rfl
    have e4 : (0 : Int) ≤ 1 := by decide
    rw [e0]
    simp only [q10, evL_op, evL_sel, evL_nx, evL_exit, evL_ret, evL_join, evL_block, evL_cond, evK_some, evJ_nx, evJ_rt, evJ_ex, evB_nx, evB_rt, evB_ex, evC2_bool, evS_and, evS_or, evS_tf, evS_ft, ev_t, ev_s, ev_c, evalOp, bin_add, bin_sub, bin_mul, bin_eql, bin_neq, bin_lss, bin_leq, bin_gtr, bin_geq, sbin_eql, sbin_neq, b8, List.map_cons, List.map_nil, PV.rens, PV.ren, if_true, if_false, Bool.false_eq_true, reduceIte, h0, hlen, n1, decide_false, decide_true, Bool.not_true, Int.le_refl, i0, e1, e2, w1, Int.natCast_nonneg, Int.toNat_natCast, i1, Bool.or_self, highP, lowP, Option.map_some, b1, b2, e3, e4, and_self, t1, evL_loop, List.length_nil, List.nil_append, List.length_cons, Nat.zero_add]
  have hp := parse_in hb
  have c1 : cutP (60 :: (b ++ [62])) 60 = (b ++ [62], true) := by simp [cutP]
  have c2 : cutS (b ++ [62]) 62 = (b, true) := by unfold cutS; rw [if_pos List.getLast?_concat, List.dropLast_concat]
  have hin : inner (60 :: (b ++ [62])) = ((cutA b 64).1, (cutA b 64).2.1) := by unfold inner; rw [c1, c2]
  rcases idxB_cases b 64 with ⟨_, h5⟩ | ⟨x, y, h5, h6, _⟩
  · have hno : parseOk (60 :: (b ++ [62])) = false := by rw [hp, cutA_no h5]; rfl
    rw [bad_parse hno, hno]
    refine evT_of (k := b.length + 1) (F := l10) (H' := H0) (e := [.ptr 0 0, .bool false]) (l := [pathV false [] [], .bool false]) rfl rfl rfl ?_ rfl rfl
    show evL T (b.length + 1) q10 _ _ = _
    rw [hq, loop10_no _ b h5 (by omega) b.length 0 (by omega) _ (by omega)]
    simp only [q10_2, evL_op, evL_sel, evL_nx, evL_exit, evL_ret, evL_join, evL_block, evL_cond, evK_some, evJ_nx, evJ_rt, evJ_ex, evB_nx, evB_rt, evB_ex, evC2_bool, evS_and, evS_or, evS_tf, evS_ft, ev_t, ev_s, ev_c, evalOp, bin_add, bin_sub, bin_mul, bin_eql, bin_neq, bin_lss, bin_leq, bin_gtr, bin_geq, sbin_eql, sbin_neq, b8, List.map_cons, List.map_nil, PV.rens, PV.ren, if_true, if_false, Bool.false_eq_true, reduceIte, Nat.reduceAdd, Nat.reduceSub, Nat.reduceMul, Nat.reduceEqDiff, Nat.reduceLeDiff, Int.reduceLE, Int.reduceLT, Int.reduceEq, Int.reduceToNat, Int.reduceAdd, Int.reduceSub, Int.reduceNeg, decide_true, decide_false, Bool.not_true, Bool.not_false, Bool.true_and, Bool.false_and, Bool.and_true, Bool.and_false, Bool.or_true, Bool.true_or, Bool.or_false, Bool.false_or, and_self, and_true, true_and, Nat.le_refl, Nat.zero_add, Nat.mul_one, Nat.one_ne_zero, Nat.zero_le, highP, lowP, Option.map_some, Option.map_none, List.drop_zero, List.take_zero, List.length_cons, List.length_nil, List.nil_append, List.append_nil, List.cons_append, fillP, PV.cells?, PV.one, PV.cleans, PV.clean, PV.of?, List.all_cons, List.all_nil, List.take_succ_cons, List.drop_succ_cons, Bool.and_self, Int.natCast_nonneg, Int.toNat_natCast, Int.toNat_zero, List.getElem?_cons_zero, List.set_cons_zero]
  · subst h5
    rw [cutA_at h6] at hp hin
    have hxy : x.length + y.length ≤ 4000000000 := by simp at hl; omega
    have hlp := loop10_at ((x ++ 64 :: y).length + 1) x y h6 hxy x.length 0 (by omega) ((x ++ 64 :: y).length + 1) (by simp; omega)
    cases hok : pathOk false x y with
    | true =>
      have hyes : parseOk (60 :: (x ++ 64 :: y ++ [62])) = true := by rw [hp]; simpa using hok
      have hv : parseV (60 :: (x ++ 64 :: y ++ [62])) = pathV false x y := by
        have : innerOk (60 :: (x ++ 64 :: y ++ [62])) = true := by
          have h7 : (decide (60 :: (x ++ 64 :: y ++ [62]) = [60, 62]) || innerOk (60 :: (x ++ 64 :: y ++ [62]))) = true := hyes
          rwa [decide_eq_false h0, Bool.false_or] at h7
        unfold parseV parseC
        rw [if_neg h0, if_pos this, hin]
      rw [hyes, hv]
      rw [hok] at hlp
      refine evT_of (k := (x ++ 64 :: y).length + 1) (F := l10) (H' := [.cells [.bool false, .str x, .str y], .cells [.bool false, .str x, .str y]]) (e := [.ptr 0 0, .bool true]) (l := [pathV false x y, .bool true]) rfl rfl rfl ?_ rfl rfl
      show evL T _ q10 _ _ = _
      rw [hq, hlp]
      rfl
    | false =>
      have hno : parseOk (60 :: (x ++ 64 :: y ++ [62])) = false := by rw [hp]; simpa using hok
      rw [bad_parse hno, hno]
      rw [hok] at hlp
      refine evT_of (k := (x ++ 64 :: y).length + 1) (F := l10) (H' := [.cells [.bool false, .str [], .str []], .cells [.bool false, .str x, .str y]]) (e := [.ptr 0 0, .bool false]) (l := [pathV false [] [], .bool false]) rfl rfl rfl ?_ rfl rfl
      show evL T _ q10 _ _ = _
      rw [hq, hlp]
      rfl
theorem T10 (s : List UInt8) (hl : s.length ≤ 4000000000) : T 10 [.str s] [] = some (.tup [parseV s, .bool (parseOk s)], []) := by
  by_cases h0 : s = [60, 62]
  · subst h0; exact evT_iff.2 ⟨50, by kernel_rfl⟩
  · by_cases h1 : 2 ≤ s.length ∧ s.head? = some 60 ∧ s.getLast? = some 62
    · obtain ⟨h2, h3, h4⟩ := h1
      cases s with
      | nil => simp at h3
      | cons a r =>
        obtain rfl : a = 60 := by simpa using h3
        rcases List.eq_nil_or_concat r with rfl | ⟨b, z, rfl⟩
        · simp at h2
        · rw [List.concat_eq_append] at *
          have hz : z = 62 := by
            have e : 60 :: (b ++ [z]) = (60 :: b) ++ [z] := rfl
            rw [e, List.getLast?_concat] at h4
            exact Option.some.inj h4
          subst hz
          have hb : b ≠ [] := fun e => h0 (by rw [e]; rfl)
          exact T10_in b hb (by simp at hl; omega)
    · have hno : parseOk s = false := by
        by_cases h2 : s.head? = some 60
        · by_cases h3 : s.getLast? = some 62
          · have h4 : ¬ 2 ≤ s.length := fun h4 => h1 ⟨h4, h2, h3⟩
            cases s with
            | nil => simp at h2
            | cons a r => cases r with
              | nil => simp at h2 h3; rw [h2] at h3; exact absurd h3 (by decide)
              | cons b r => simp at h4
          · by_cases h4 : 2 ≤ s.length
            · exact parse_last h3 h4
            · cases s with
              | nil => simp at h2
              | cons a r => cases r with
                | nil =>
                  obtain rfl : a = 60 := by simpa using h2
                  decide
                | cons b r => simp at h4
        · exact parse_head h2
      rw [bad_parse hno, hno]
      refine evT_of (k := 0) (F := l10) (H' := H0) (e := [.ptr 0 0, .bool false]) (l := [pathV false [] [], .bool false]) rfl rfl rfl ?_ rfl rfl
      show evL T 0 q10 _ _ = _
      by_cases h2 : (s.length : Int) < 2
      · simp only [q10, evL_op, evL_sel, evL_nx, evL_exit, evL_ret, evL_join, evL_block, evL_cond, evK_some, evJ_nx, evJ_rt, evJ_ex, evB_nx, evB_rt, evB_ex, evC2_bool, evS_and, evS_or, evS_tf, evS_ft, ev_t, ev_s, ev_c, evalOp, bin_add, bin_sub, bin_mul, bin_eql, bin_neq, bin_lss, bin_leq, bin_gtr, bin_geq, sbin_eql, sbin_neq, b8, List.map_cons, List.map_nil, PV.rens, PV.ren, if_true, if_false, Bool.false_eq_true, reduceIte, Nat.reduceAdd, Nat.reduceSub, Nat.reduceMul, Nat.reduceEqDiff, Nat.reduceLeDiff, Int.reduceLE, Int.reduceLT, Int.reduceEq, Int.reduceToNat, Int.reduceAdd, Int.reduceSub, Int.reduceNeg, decide_true, decide_false, Bool.not_true, Bool.not_false, Bool.true_and, Bool.false_and, Bool.and_true, Bool.and_false, Bool.or_true, Bool.true_or, Bool.or_false, Bool.false_or, and_self, and_true, true_and, Nat.le_refl, Nat.zero_add, Nat.mul_one, Nat.one_ne_zero, Nat.zero_le, highP, lowP, Option.map_some, Option.map_none, List.drop_zero, List.take_zero, List.length_cons, List.length_nil, List.nil_append, List.append_nil, List.cons_append, fillP, PV.cells?, PV.one, PV.cleans, PV.clean, PV.of?, List.all_cons, List.all_nil, List.take_succ_cons, List.drop_succ_cons, Bool.and_self, Int.natCast_nonneg, Int.toNat_natCast, Int.toNat_zero, h0, h2, List.getElem?_cons_zero, List.set_cons_zero]
      · have h4 : 2 ≤ s.length := by omega
        cases s with
        | nil => simp at h4
        | cons a r =>
          have hidx : (a :: r)[Int.toNat 0]? = some a := rfl
          obtain ⟨z, hz⟩ : ∃ z, (a :: r).getLast? = some z := ⟨_, List.getLast?_eq_some_getLast (by simp)⟩
          have hz' : (a :: r)[(a :: r).length - 1]? = some z := by rw [← List.getLast?_eq_getElem?]; exact hz
          have hw : IntKind.i64.wrap (((a :: r).length : Int) - 1) = (((a :: r).length - 1 : Nat) : Int) := by
            rw [IntWalk.i64_in _ (by simp only [List.length_cons] at hl ⊢; omega)]; simp only [List.length_cons]; omega
          have ea : (!decide ((a.toNat : Int) = 60)) = !(a == 60) := byte_ne a 60 (by omega)
          have ez : (!decide ((z.toNat : Int) = 62)) = !(z == 62) := byte_ne z 62 (by omega)
          have hbad : (!(a == 60) || !(z == 62)) = true := by
            cases ha : (a == 60) with
            | false => rfl
            | true =>
              cases hzz : (z == 62) with
              | false => rfl
              | true =>
                refine absurd ⟨h4, ?_, ?_⟩ h1
                · rw [List.head?_cons, eq_of_beq ha]
                · rw [hz, eq_of_beq hzz]
          simp only [List.length_cons] at hw hz' h2
          simp only [q10, evL_op, evL_sel, evL_nx, evL_exit, evL_ret, evL_join, evL_block, evL_cond, evK_some, evJ_nx, evJ_rt, evJ_ex, evB_nx, evB_rt, evB_ex, evC2_bool, evS_and, evS_or, evS_tf, evS_ft, ev_t, ev_s, ev_c, evalOp, bin_add, bin_sub, bin_mul, bin_eql, bin_neq, bin_lss, bin_leq, bin_gtr, bin_geq, sbin_eql, sbin_neq, b8, List.map_cons, List.map_nil, PV.rens, PV.ren, if_true, if_false, Bool.false_eq_true, reduceIte, h0, h2, decide_false, Int.le_refl, hidx, ea, hw, Int.natCast_nonneg, Int.toNat_natCast, hz', ez, Bool.false_or, hbad, fillP, PV.cells?, PV.one, List.all_cons, List.all_nil, Bool.and_self, List.length_nil, List.nil_append, List.getElem?_cons_zero, List.set_cons_zero, List.take_zero, List.drop_succ_cons, List.drop_zero, List.length_cons, List.append_nil]
          rfl
end Go.Proofs.YtgilfigaimndkaaDoor.Tab
