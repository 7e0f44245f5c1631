/- Replies: what answer.Read tells, as a law of its own. -/
import Derived.Test.YtmajbgmjlggcbaaDoorRead
namespace Go.Proofs.YtmajbgmjlggcbaaDoor.Tab
set_option linter.all false
open Go Go.RowKit Go.Proofs.YtmajbgmjlggcbaaDoor.Ev
theorem Read_none (b : List UInt8) (hb : b.length ≤ 1000000000) (h : readGo b 21 b 0 [] = none) : T 11 [sl8 b] [] = some (.tup [.agg [.int .i64 0, .sl .nil 0 0 []], .int .i64 0, .int .i64 3], []) := by
  obtain ⟨r, lp, c, p, T', rfl⟩ := loop_read b hb 22 none h
  refine evT_of (k := 22) (F := l11) (H' := .cells [.int .i64 0, .sl .nil 0 0 []] :: T') (e := [.ptr 0 0, .int .i64 0, .int .i64 3]) (l := [.agg [.int .i64 0, .sl .nil 0 0 []], .int .i64 0, .int .i64 3]) rfl rfl rfl ?_ rfl rfl
  show evL T 22 q11 _ _ = _
  simp only [q11, evL_op, evL_sel, evL_nx, evL_exit, evL_ret, evL_join, evL_block, evL_cond, evK_some, evJ_nx, evJ_rt, evJ_ex, evB_nx, evB_rt, evB_ex, evC2_bool, evS_and, evS_or, evS_tf, evS_ft, ev_t, ev_s, ev_c, evalOp, bin_add, bin_sub, bin_mul, bin_eql, bin_neq, bin_lss, bin_leq, bin_gtr, bin_geq, sbin_eql, sbin_neq, b8, List.map_cons, List.map_nil, PV.rens, PV.ren, if_true, if_false, Bool.false_eq_true, reduceIte, Nat.reduceAdd, Nat.reduceSub, Nat.reduceMul, Nat.reduceEqDiff, Nat.reduceLeDiff, Int.reduceLE, Int.reduceLT, Int.reduceEq, Int.reduceToNat, Int.reduceAdd, Int.reduceSub, Int.reduceNeg, decide_true, decide_false, Bool.not_true, Bool.not_false, Bool.true_and, Bool.false_and, Bool.and_true, Bool.and_false, Bool.or_true, Bool.true_or, Bool.or_false, Bool.false_or, and_self, and_true, true_and, Nat.le_refl, Nat.zero_add, Nat.mul_one, Nat.one_ne_zero, Nat.zero_le, highP, lowP, Option.map_some, Option.map_none, List.drop_zero, List.take_zero, List.length_cons, List.length_nil, List.nil_append, List.append_nil, List.cons_append, fillP, PV.cells?, PV.one, PV.cleans, PV.clean, PV.of?, List.all_cons, List.all_nil, List.take_succ_cons, List.drop_succ_cons, Bool.and_self, Int.natCast_nonneg, Int.toNat_natCast, Int.toNat_zero, PV.of?, Tk.ren, tailP, evL_loop, or_true, true_or, Nat.zero_lt_one, Nat.sub_zero, List.getElem?_cons_zero, List.getElem?_cons_succ, List.set_cons_zero, List.set_cons_succ, List.take_length]
  rw [lp]
  simp only [q11_2, evL_op, evL_sel, evL_nx, evL_exit, evL_ret, evL_join, evL_block, evL_cond, evK_some, evJ_nx, evJ_rt, evJ_ex, evB_nx, evB_rt, evB_ex, evC2_bool, evS_and, evS_or, evS_tf, evS_ft, ev_t, ev_s, ev_c, evalOp, bin_add, bin_sub, bin_mul, bin_eql, bin_neq, bin_lss, bin_leq, bin_gtr, bin_geq, sbin_eql, sbin_neq, b8, List.map_cons, List.map_nil, PV.rens, PV.ren, if_true, if_false, Bool.false_eq_true, reduceIte, Nat.reduceAdd, Nat.reduceSub, Nat.reduceMul, Nat.reduceEqDiff, Nat.reduceLeDiff, Int.reduceLE, Int.reduceLT, Int.reduceEq, Int.reduceToNat, Int.reduceAdd, Int.reduceSub, Int.reduceNeg, decide_true, decide_false, Bool.not_true, Bool.not_false, Bool.true_and, Bool.false_and, Bool.and_true, Bool.and_false, Bool.or_true, Bool.true_or, Bool.or_false, Bool.false_or, and_self, and_true, true_and, Nat.le_refl, Nat.zero_add, Nat.mul_one, Nat.one_ne_zero, Nat.zero_le, highP, lowP, Option.map_some, Option.map_none, List.drop_zero, List.take_zero, List.length_cons, List.length_nil, List.nil_append, List.append_nil, List.cons_append, fillP, PV.cells?, PV.one, PV.cleans, PV.clean, PV.of?, List.all_cons, List.all_nil, List.take_succ_cons, List.drop_succ_cons, Bool.and_self, Int.natCast_nonneg, Int.toNat_natCast, Int.toNat_zero, PV.of?, Tk.ren, tailP, evL_loop, or_true, true_or, Nat.zero_lt_one, Nat.sub_zero, List.getElem?_cons_zero, List.getElem?_cons_succ, List.set_cons_zero, List.set_cons_succ, List.take_length]
  try rfl
theorem Read_some (b : List UInt8) (hb : b.length ≤ 1000000000) {c : Int} {l : List (List UInt8)} {n : Nat} (h : readGo b 21 b 0 [] = some (c, l, n)) : T 11 [sl8 b] [] = some (.tup [.agg [.int .i64 c, .sl (.tok 0) 1 l.length (l.map fun x => .str x)], .int .i64 n, .int .i64 0], [.tok]) := by
  obtain ⟨r, lp, _, rfl⟩ := loop_read b hb 22 _ h
  refine evT_of (k := 22) (F := l11) (H' := [.cells [.int .i64 c, .sl (.tok 2) 1 l.length (l.map fun x => .str x)], .dead, .tok]) (e := [.ptr 0 0, .int .i64 n, .int .i64 0]) (l := [.agg [.int .i64 c, .sl (.tok 2) 1 l.length (l.map fun x => .str x)], .int .i64 n, .int .i64 0]) rfl rfl rfl ?_ rfl rfl
  show evL T 22 q11 _ _ = _
  simp only [q11, evL_op, evL_sel, evL_nx, evL_exit, evL_ret, evL_join, evL_block, evL_cond, evK_some, evJ_nx, evJ_rt, evJ_ex, evB_nx, evB_rt, evB_ex, evC2_bool, evS_and, evS_or, evS_tf, evS_ft, ev_t, ev_s, ev_c, evalOp, bin_add, bin_sub, bin_mul, bin_eql, bin_neq, bin_lss, bin_leq, bin_gtr, bin_geq, sbin_eql, sbin_neq, b8, List.map_cons, List.map_nil, PV.rens, PV.ren, if_true, if_false, Bool.false_eq_true, reduceIte, Nat.reduceAdd, Nat.reduceSub, Nat.reduceMul, Nat.reduceEqDiff, Nat.reduceLeDiff, Int.reduceLE, Int.reduceLT, Int.reduceEq, Int.reduceToNat, Int.reduceAdd, Int.reduceSub, Int.reduceNeg, decide_true, decide_false, Bool.not_true, Bool.not_false, Bool.true_and, Bool.false_and, Bool.and_true, Bool.and_false, Bool.or_true, Bool.true_or, Bool.or_false, Bool.false_or, and_self, and_true, true_and, Nat.le_refl, Nat.zero_add, Nat.mul_one, Nat.one_ne_zero, Nat.zero_le, highP, lowP, Option.map_some, Option.map_none, List.drop_zero, List.take_zero, List.length_cons, List.length_nil, List.nil_append, List.append_nil, List.cons_append, fillP, PV.cells?, PV.one, PV.cleans, PV.clean, PV.of?, List.all_cons, List.all_nil, List.take_succ_cons, List.drop_succ_cons, Bool.and_self, Int.natCast_nonneg, Int.toNat_natCast, Int.toNat_zero, PV.of?, Tk.ren, tailP, evL_loop, or_true, true_or, Nat.zero_lt_one, Nat.sub_zero, List.getElem?_cons_zero, List.getElem?_cons_succ, List.set_cons_zero, List.set_cons_succ, List.take_length]
  rw [lp]
  simp only [evL_op, evL_sel, evL_nx, evL_exit, evL_ret, evL_join, evL_block, evL_cond, evK_some, evJ_nx, evJ_rt, evJ_ex, evB_nx, evB_rt, evB_ex, evC2_bool, evS_and, evS_or, evS_tf, evS_ft, ev_t, ev_s, ev_c, evalOp, bin_add, bin_sub, bin_mul, bin_eql, bin_neq, bin_lss, bin_leq, bin_gtr, bin_geq, sbin_eql, sbin_neq, b8, List.map_cons, List.map_nil, PV.rens, PV.ren, if_true, if_false, Bool.false_eq_true, reduceIte, Nat.reduceAdd, Nat.reduceSub, Nat.reduceMul, Nat.reduceEqDiff, Nat.reduceLeDiff, Int.reduceLE, Int.reduceLT, Int.reduceEq, Int.reduceToNat, Int.reduceAdd, Int.reduceSub, Int.reduceNeg, decide_true, decide_false, Bool.not_true, Bool.not_false, Bool.true_and, Bool.false_and, Bool.and_true, Bool.and_false, Bool.or_true, Bool.true_or, Bool.or_false, Bool.false_or, and_self, and_true, true_and, Nat.le_refl, Nat.zero_add, Nat.mul_one, Nat.one_ne_zero, Nat.zero_le, highP, lowP, Option.map_some, Option.map_none, List.drop_zero, List.take_zero, List.length_cons, List.length_nil, List.nil_append, List.append_nil, List.cons_append, fillP, PV.cells?, PV.one, PV.cleans, PV.clean, PV.of?, List.all_cons, List.all_nil, List.take_succ_cons, List.drop_succ_cons, Bool.and_self, Int.natCast_nonneg, Int.toNat_natCast, Int.toNat_zero, PV.of?, Tk.ren, tailP, evL_loop, or_true, true_or, Nat.zero_lt_one, Nat.sub_zero, List.getElem?_cons_zero, List.getElem?_cons_succ, List.set_cons_zero, List.set_cons_succ, List.take_length]
theorem readGo_some (b : List UInt8) : ∀ (k : Nat) (at_ : List UInt8) (c : Int) (ls : List (List UInt8)) (c' : Int) (l' : List (List UInt8)) (n : Nat), readGo b k at_ c ls = some (c', l', n) → replyOk c' l' = true ∧ rb c' l' = b.take n ∧ n ≤ b.length
  | 0, at_, c, ls, c', l', n, h => by cases h
  | k + 1, at_, c, ls, c', l', n, h => by
    unfold readGo at h
    split at h
    · split at h
      · cases h
      · split at h
        · cases h
        · split at h
          · cases h
          · split at h
            · cases h
            · split at h
              · exact readGo_some b k _ _ _ c' l' n h
              · split at h
                · rename_i hh
                  cases h
                  exact ⟨hh.2.1, hh.2.2, Nat.sub_le _ _⟩
                · cases h
    · cases h
theorem digs_eq : ∀ d : Fin 10, Lib.digitVal (UInt8.ofNat (48 + d.val)) = some d.val := by decide
theorem dg3 {u : Nat} (h1 : 100 ≤ u) (h2 : u < 1000) : dg u = [UInt8.ofNat (48 + u / 100), UInt8.ofNat (48 + u / 10 % 10), UInt8.ofNat (48 + u % 10)] := by
  unfold dg
  rw [dec_big (show ¬ u < 10 by omega), dec_big (show ¬ u / 10 < 10 by omega), Lib.decDigits_one (show u / 10 / 10 < 10 by omega), Nat.div_div_eq_div_mul]
  rfl
theorem atoi_dg {u : Nat} (h1 : 100 ≤ u) (h2 : u < 1000) : Lib.atoi (dg u) = some (u : Int) := by
  rw [dg3 h1 h2]
  have n45 : ∀ d : Fin 10, (UInt8.ofNat (48 + d.val) == 45) = false := by decide
  have n43 : ∀ d : Fin 10, (UInt8.ofNat (48 + d.val) == 43) = false := by decide
  have a1 := n45 ⟨u / 100, by omega⟩
  have a2 := n43 ⟨u / 100, by omega⟩
  have d1 := digs_eq ⟨u / 100, by omega⟩
  have d2 := digs_eq ⟨u / 10 % 10, by omega⟩
  have d3 := digs_eq ⟨u % 10, by omega⟩
  simp only at a1 a2 d1 d2 d3
  simp only [Lib.atoi, Lib.decNat, Lib.decFrom, a1, a2, d1, d2, d3, List.isEmpty_cons, Bool.false_eq_true, if_false, Option.map_some, Option.some.injEq]
  omega
theorem dig_cl : ∀ (k u : Nat), u ≤ k → Cl (Lib.decDigits u)
  | 0, u, h => by
    obtain rfl : u = 0 := by omega
    rw [Lib.decDigits_one (by decide)]
    intro c hc
    rw [List.mem_singleton.1 hc]; decide
  | k + 1, u, h => by
    have dg : ∀ d : Fin 10, UInt8.ofNat (48 + d.val) ≠ 13 ∧ UInt8.ofNat (48 + d.val) ≠ 10 := by decide
    by_cases h1 : u < 10
    · rw [Lib.decDigits_one h1]
      intro c hc
      rw [List.mem_singleton.1 hc]; exact dg ⟨u, h1⟩
    · rw [dec_big h1]
      refine (dig_cl k (u / 10) (by omega)).app fun c hc => ?_
      rw [List.mem_singleton.1 hc]; exact dg ⟨u % 10, by omega⟩
theorem chC_cl {s : List UInt8} (h : s.all chC = true) : Cl s := fun c hc => by
  have := List.all_eq_true.1 h c hc
  constructor
  · rintro rfl; exact absurd this (by decide)
  · rintro rfl; exact absurd this (by decide)
theorem line_cl {u : Nat} {m : UInt8} (hm : m ≠ 13 ∧ m ≠ 10) {s : List UInt8} (h : s.all chC = true) : Cl (dg u ++ m :: s) := by
  refine (dig_cl u u (Nat.le_refl _)).app fun c hc => ?_
  rcases List.mem_cons.1 hc with rfl | hc
  · exact hm
  · exact chC_cl h c hc
theorem line_at {d : List UInt8} (hd : d.length = 3) (m : UInt8) (s : List UInt8) : (d ++ m :: s).take 3 = d ∧ (d ++ m :: s)[3]? = some m ∧ (d ++ m :: s).drop 4 = s ∧ ¬ ((d ++ m :: s).length : Int) < 4 := by
  match d, hd with
  | [a, b, c], _ => exact ⟨rfl, rfl, rfl, by simp; omega⟩
theorem readGo_run (u : Nat) (hu1 : 200 ≤ u) (hu2 : u ≤ 559) (t b : List UInt8) : ∀ (suf pre : List (List UInt8)) (A : List UInt8) (k : Nat) (c : Int), suf ≠ [] → (∀ x ∈ suf, x.all chC = true) → pre.length + suf.length ≤ 20 → suf.length ≤ k → (pre = [] ∨ c = u) → replyOk u (pre ++ suf) = true →
      b = A ++ join (mk (dg u) suf) ++ t → rb u (pre ++ suf) = A ++ join (mk (dg u) suf) → readGo b k (join (mk (dg u) suf) ++ t) c pre = some ((u : Int), pre ++ suf, (A ++ join (mk (dg u) suf)).length)
  | [], _, _, _, _, h, _, _, _, _, _, _, _ => absurd rfl h
  | s :: r, pre, A, 0, c, _, _, _, hk, _, _, _, _ => by simp at hk
  | [s], pre, A, k + 1, c, _, hx, h20, hk, hc, hok, hb, hrb => by
    have hs := hx s (by simp)
    have hd3 : (dg u).length = 3 := by rw [dg3 (by omega) (by omega)]; rfl
    obtain ⟨l1, l2, l3, l4⟩ := line_at hd3 32 s
    have hj : join (mk (dg u) [s]) ++ t = (dg u ++ 32 :: s) ++ 13 :: 10 :: t := by rw [mk, join_one]; simp
    have hbl : b.take (b.length - t.length) = A ++ join (mk (dg u) [s]) := by
      rw [hb, List.length_append, Nat.add_sub_cancel, List.take_left]
    have hbl2 : b.length - t.length = (A ++ join (mk (dg u) [s])).length := by rw [hb, List.length_append, Nat.add_sub_cancel]
    unfold readGo
    simp only [List.length_singleton] at h20
    rw [if_pos (by omega), hj, cutN_yes (line_cl (by decide) hs).nc]
    dsimp only
    rw [if_neg l4, l1, atoi_dg (by omega) (by omega)]
    dsimp only
    have hcc : (decide ((0 : Int) < pre.length) && !decide ((u : Int) = c)) = false := by
      rcases hc with rfl | rfl
      · rfl
      · simp
    rw [hcc, if_neg (by decide), l2, if_neg (by decide), l3, if_pos ⟨rfl, hok, by rw [hrb, hbl]⟩, hbl2]
  | s :: s2 :: r, pre, A, k + 1, c, _, hx, h20, hk, hc, hok, hb, hrb => by
    have hs := hx s (by simp)
    have hd3 : (dg u).length = 3 := by rw [dg3 (by omega) (by omega)]; rfl
    obtain ⟨l1, l2, l3, l4⟩ := line_at hd3 45 s
    have hjm : join (mk (dg u) (s :: s2 :: r)) = (dg u ++ 45 :: s) ++ 13 :: 10 :: join (mk (dg u) (s2 :: r)) := by rw [mk, join_cons]
    have hj : join (mk (dg u) (s :: s2 :: r)) ++ t = (dg u ++ 45 :: s) ++ 13 :: 10 :: (join (mk (dg u) (s2 :: r)) ++ t) := by rw [hjm]; simp
    have ih := readGo_run u hu1 hu2 t b (s2 :: r) (pre ++ [s]) (A ++ ((dg u ++ 45 :: s) ++ [13, 10])) k u (by simp) (fun x hx' => hx x (List.mem_cons_of_mem _ hx')) (by simp only [List.length_append, List.length_cons, List.length_nil] at h20 ⊢; omega) (by simp only [List.length_cons] at hk ⊢; omega) (.inr rfl) (by rw [List.append_assoc]; exact hok) (by rw [hb, hjm]; simp) (by rw [List.append_assoc]; exact hrb.trans (by rw [hjm]; simp))
    unfold readGo
    simp only [List.length_cons] at h20
    rw [if_pos (by omega), hj, cutN_yes (line_cl (by decide) hs).nc]
    dsimp only
    rw [if_neg l4, l1, atoi_dg (by omega) (by omega)]
    dsimp only
    have hcc : (decide ((0 : Int) < pre.length) && !decide ((u : Int) = c)) = false := by
      rcases hc with rfl | rfl
      · rfl
      · simp
    rw [hcc, if_neg (by decide), l2, if_pos rfl, l3, ih, hjm]
    simp
theorem readGo_yes {c : Int} {l : List (List UInt8)} (h : replyOk c l = true) (t : List UInt8) : readGo (rb c l ++ t) 21 (rb c l ++ t) 0 [] = some (c, l, (rb c l).length) := by
  have hf := replyOk_facts h
  obtain ⟨u, rfl, hu1, hu2, hl1, h20, hx⟩ := hf
  have hne : l ≠ [] := fun e => by rw [e] at hl1; cases hl1
  have hrb : rb u l = join (mk (dg u) l) := by unfold rb; rw [Int.toNat_natCast]
  have := readGo_run u hu1 hu2 t (rb u l ++ t) l [] [] 21 0 hne (fun x hx' => (hx x hx').1) (by simp only [List.length_nil]; omega) (by omega) (.inl rfl) h (by rw [hrb]; rfl) (by rw [List.nil_append, List.nil_append]; exact hrb)
  rw [List.nil_append, ← hrb] at this
  exact this
end Go.Proofs.YtmajbgmjlggcbaaDoor.Tab
