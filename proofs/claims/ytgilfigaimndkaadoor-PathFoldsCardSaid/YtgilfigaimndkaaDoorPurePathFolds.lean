/- PathFolds: letters turned about; what is left of it, over texts. -/
import Derived.Test.YtgilfigaimndkaaDoorPath9
namespace Go.Proofs.YtgilfigaimndkaaDoor.Tab
set_option linter.all false
open Go Go.RowKit Go.Proofs.YtgilfigaimndkaaDoor.Ev
theorem all_u8 {Q : UInt8 → Prop} (h : ∀ n : Fin 256, Q ⟨⟨n⟩⟩) (c : UInt8) : Q c := h c.toBitVec.toFin
def flipB (f : Bool) (c : UInt8) : UInt8 := if (f && letterC c) = true then c ^^^ 32 else c
theorem flip_fold (f : Bool) (c : UInt8) : foldB (flipB f c) = foldB c := by cases f <;> revert c <;> exact all_u8 (by decide +kernel)
theorem fold_fold (c : UInt8) : foldB (foldB c) = foldB c := by revert c; exact all_u8 (by decide +kernel)
theorem fold_dot (c : UInt8) : foldB c = 46 ↔ c = 46 := by revert c; exact all_u8 (by decide +kernel)
theorem fold_hyp (c : UInt8) : (foldB c == 45) = (c == 45) := by revert c; exact all_u8 (by decide +kernel)
theorem fold_label (c : UInt8) : labelC (foldB c) = labelC c := by revert c; exact all_u8 (by decide +kernel)
theorem xor_val (c : UInt8) : IntKind.u8.wrap ((BitVec.ofInt IntKind.u8.bits (c.toNat : Int) ^^^ BitVec.ofInt IntKind.u8.bits 32).toNat : Int) = ((c ^^^ 32).toNat : Int) := by revert c; exact all_u8 (by decide +kernel)
theorem split_map : ∀ s : List UInt8, splitBy 46 (s.map foldB) = (splitBy 46 s).map foldS
  | [] => rfl
  | b :: l => by
    have ih := split_map l
    rw [List.map_cons]
    unfold splitBy
    by_cases h : b = 46
    · rw [if_pos h, if_pos ((fold_dot b).2 h), ih]; rfl
    · rw [if_neg h, if_neg (fun e => h ((fold_dot b).1 e)), ih]
      cases hs : splitBy 46 l with
      | nil => exact absurd hs (split_ne l)
      | cons y r => rfl
theorem label_fold (s : List UInt8) : label (foldS s) = label s := by
  unfold label foldS
  have h1 : (s.map foldB).all labelC = s.all labelC := by
    rw [List.all_map]
    congr 1
    funext c
    exact fold_label c
  have h2 : ((s.map foldB).head? == some 45) = (s.head? == some 45) := by
    cases s with
    | nil => rfl
    | cons a r => simp only [List.map_cons, List.head?_cons, Option.some_beq_some, fold_hyp]
  have h3 : ((s.map foldB).getLast? == some 45) = (s.getLast? == some 45) := by
    rw [List.getLast?_map]
    cases s.getLast? with
    | none => rfl
    | some a => simp only [Option.map_some, Option.some_beq_some, fold_hyp]
  have h4 : decide (s.map foldB = []) = decide (s = []) := by cases s <;> simp
  rw [h1, h2, h3, h4, List.length_map]
theorem parts_fold (s : List UInt8) : parts (foldS s) 255 label = parts s 255 label := by
  unfold parts
  have h1 : (foldS s).length = s.length := by simp [foldS]
  have h2 : splitBy 46 (foldS s) = (splitBy 46 s).map foldS := split_map s
  rw [h1, h2, List.all_map]
  congr 2
  funext x
  exact label_fold x
/-! ### flip -/
def fAt (fs : List Bool) (i : Nat) : Bool := fs.getD i false
def flipS (s : List UInt8) (fs : List Bool) : List UInt8 := s.mapIdx fun i c => flipB (fAt fs i) c
theorem flipS_len (s : List UInt8) (fs : List Bool) : (flipS s fs).length = s.length := by simp [flipS]
theorem fold_flip (s : List UInt8) (fs : List Bool) : foldS (flipS s fs) = foldS s := by
  apply List.ext_getElem?
  intro i
  simp only [foldS, flipS, List.getElem?_map, List.getElem?_mapIdx, Option.map_map]
  congr 1
  funext c
  exact flip_fold _ c
def sp25 (s : List UInt8) (fs : List Bool) (i : Nat) : List UInt8 := (flipS s fs).take i ++ s.drop i
theorem sp25_len (s : List UInt8) (fs : List Bool) (i : Nat) : (sp25 s fs i).length = s.length := by unfold sp25; simp [flipS_len]; omega
theorem sp25_at (s : List UInt8) (fs : List Bool) (i : Nat) (h : i < s.length) : (sp25 s fs i)[i]? = some s[i] := by
  unfold sp25
  rw [List.getElem?_append_right (by simp; omega)]
  simp [flipS_len, Nat.min_eq_left (Nat.le_of_lt h)]
theorem sp25_set (s : List UInt8) (fs : List Bool) (i : Nat) (h : i < s.length) : (sp25 s fs i).set i (flipB (fAt fs i) s[i]) = sp25 s fs (i + 1) := by
  unfold sp25
  have hi : i < (flipS s fs).length := by rw [flipS_len]; exact h
  rw [List.set_append_right _ _ (by simp; omega), List.take_succ_eq_append_getElem hi, List.drop_eq_getElem_cons h, List.length_take, flipS_len, Nat.min_eq_left (Nat.le_of_lt h), Nat.sub_self, List.set_cons_zero, List.append_assoc]
  have : (flipS s fs)[i] = flipB (fAt fs i) s[i] := by simp [flipS]
  rw [this]
  rfl
theorem head25 (l : List UInt8) (fs : PV) (hf : flat fs = true) (i : Int) (m : Nat) : headS 1 [fs, .row 0 0 1 m, .int .i64 i] [.cells (l.map b8)] = ([fs, .row 0 0 1 m, .int .i64 i], [.cells (l.map b8)]) := by
  have h1 := flat_b8 l
  have h2 : nilObs 1 [.cells (l.map b8)] = [.cells (l.map b8)] := by
    show (nilTs (l.map b8) [.cells (l.map b8)]).2.set 0 (.cells (nilTs (l.map b8) [.cells (l.map b8)]).1) = _
    rw [nilTs_flat h1]
    rfl
  have hone : nilTs [fs] [.cells (l.map b8)] = ([fs], [.cells (l.map b8)]) := nilTs_flat (by simp [hf]) _
  have h3 : nilTs [fs, .row 0 0 1 m, .int .i64 i] [.cells (l.map b8)] = ([fs, .row 0 0 1 m, .int .i64 i], [.cells (l.map b8)]) := by
    cases fs with
    | sl t sz n cs => cases t <;> first | rfl | (simp [flat] at hf)
    | _ => rfl
  have ht : fs.toks = [] := by
    have := toks_flat (env := [fs]) (by simp [hf])
    simpa [PV.toksL] using this
  have hr : ∀ ρ, fs.ren ρ = fs := fun ρ => by
    have := rens_flat ρ (env := [fs]) (by simp [hf])
    simpa [PV.rens] using this
  unfold headS
  rw [h3]
  simp only
  rw [h2]
  have h4 : used 1 [fs, .row 0 0 1 m, .int .i64 i] [.cells (l.map b8)] = [] := by
    unfold used
    show dedup ((reach 1 [Ob.cells (l.map b8)] 4 ((fs.toks ++ [0]) ++ (PV.toksL (l.map b8) ++ []))).filter _) = []
    rw [toks_flat h1, ht]
    rfl
  unfold compact
  simp only
  rw [h4]
  show (PV.ren _ fs :: _, [Ob.cells (PV.rens (renOf 1 [Ob.cells (l.map b8)] []) (l.map b8))]) = _
  rw [rens_flat _ h1, hr]
  rfl
theorem take1f {fs : List Bool} {i : Nat} (h : i < fs.length) : ((fs.map PV.bool).drop i).take 1 = [PV.bool (fAt fs i)] := by
  rw [← List.map_drop, List.drop_eq_getElem_cons h, List.map_cons]
  have : fAt fs i = fs[i] := by unfold fAt; rw [List.getD_eq_getElem?_getD, List.getElem?_eq_getElem h]; rfl
  rw [this]
  rfl
theorem body25 (k0 : Nat) (s : List UInt8) (fs : List Bool) (hs : s.length ≤ 9000000000000000000) (hf : fs.length ≤ 9000000000000000000) (i : Nat) (hi : i < s.length) :
    evL T k0 q25_1 [.sl .no 1 fs.length (fs.map PV.bool), .row 0 0 1 s.length, .int .i64 i] [.cells ((sp25 s fs i).map b8)] =
    some (.nx, [.sl .no 1 fs.length (fs.map PV.bool), .row 0 0 1 s.length, .int .i64 (i + 1 : Nat)], [.cells ((sp25 s fs (i + 1)).map b8)]) := by
  have h1 : (i : Int) < s.length := by omega
  have hw : IntKind.i64.wrap ((i : Int) + 1) = ((i + 1 : Nat) : Int) := by rw [IntWalk.i64_in _ (by omega)]; rfl
  have ht := take1b (sp25_at s fs i hi)
  have hl := sp25_len s fs i
  have hp := put1b (by rw [hl]; exact hi) (flipB (fAt fs i) s[i])
  rw [sp25_set s fs i hi] at hp
  have hle : i + 1 ≤ (sp25 s fs i).length := by rw [hl]; omega
  have stay : flipB (fAt fs i) s[i] = s[i] → sp25 s fs (i + 1) = sp25 s fs i := fun e => by
    rw [← sp25_set s fs i hi, e]
    apply List.ext_getElem?
    intro j
    by_cases hj : i = j
    · subst hj; rw [List.getElem?_set_self (by rw [hl]; exact hi), sp25_at s fs i hi]
    · rw [List.getElem?_set_ne hj]
  have hlet : (decide ((97 : Int) ≤ (s[i]).toNat) && decide (((s[i]).toNat : Int) ≤ 122) || decide ((65 : Int) ≤ (s[i]).toNat) && decide (((s[i]).toNat : Int) ≤ 90)) = letterC s[i] := rfl
  by_cases hif : i < fs.length
  · have hif' : (i : Int) < fs.length := by omega
    have htf := take1f hif
    cases hfa : fAt fs i with
    | false =>
      rw [stay (by unfold flipB; rw [hfa]; rfl)]
      rw [hfa] at htf
      simp only [q25_1, q25_0, evL_op, evL_sel, evL_nx, evL_exit, evL_ret, evL_join, evL_block, evL_cond, evK_some, evJ_nx, evJ_rt, evJ_ex, evB_nx, evB_rt, evB_ex, evC2_bool, evS_and, evS_or, evS_tf, evS_ft, ev_t, ev_s, ev_c, evalOp, bin_add, bin_sub, bin_mul, bin_eql, bin_neq, bin_lss, bin_leq, bin_gtr, bin_geq, sbin_eql, sbin_neq, b8, List.map_cons, List.map_nil, PV.rens, PV.ren, if_true, if_false, Bool.false_eq_true, reduceIte, Nat.reduceAdd, Nat.reduceSub, Nat.reduceMul, Nat.reduceEqDiff, Nat.reduceLeDiff, Int.reduceLE, Int.reduceLT, Int.reduceEq, Int.reduceToNat, Int.reduceAdd, Int.reduceSub, Int.reduceNeg, decide_true, decide_false, Bool.not_true, Bool.not_false, Bool.true_and, Bool.false_and, Bool.and_true, Bool.and_false, Bool.or_true, Bool.true_or, Bool.or_false, Bool.false_or, and_self, and_true, true_and, Nat.le_refl, Nat.zero_add, Nat.mul_one, Nat.one_ne_zero, Nat.zero_le, highP, lowP, Option.map_some, Option.map_none, List.drop_zero, List.take_zero, List.length_cons, List.length_nil, List.nil_append, List.append_nil, List.cons_append, fillP, PV.cells?, PV.one, PV.cleans, PV.clean, PV.of?, List.all_cons, List.all_nil, List.take_succ_cons, List.drop_succ_cons, Bool.and_self, Int.natCast_nonneg, Int.toNat_natCast, Int.toNat_zero, h1, hif', Int.natCast_nonneg, Int.toNat_natCast, htf, hw]
    | true =>
      rw [hfa] at htf
      cases hlc : letterC s[i] with
      | false =>
        rw [stay (by unfold flipB; rw [hfa, hlc]; rfl)]
        simp only [q25_1, q25_0, evL_op, evL_sel, evL_nx, evL_exit, evL_ret, evL_join, evL_block, evL_cond, evK_some, evJ_nx, evJ_rt, evJ_ex, evB_nx, evB_rt, evB_ex, evC2_bool, evS_and, evS_or, evS_tf, evS_ft, ev_t, ev_s, ev_c, evalOp, bin_add, bin_sub, bin_mul, bin_eql, bin_neq, bin_lss, bin_leq, bin_gtr, bin_geq, sbin_eql, sbin_neq, b8, List.map_cons, List.map_nil, PV.rens, PV.ren, if_true, if_false, Bool.false_eq_true, reduceIte, Nat.reduceAdd, Nat.reduceSub, Nat.reduceMul, Nat.reduceEqDiff, Nat.reduceLeDiff, Int.reduceLE, Int.reduceLT, Int.reduceEq, Int.reduceToNat, Int.reduceAdd, Int.reduceSub, Int.reduceNeg, decide_true, decide_false, Bool.not_true, Bool.not_false, Bool.true_and, Bool.false_and, Bool.and_true, Bool.and_false, Bool.or_true, Bool.true_or, Bool.or_false, Bool.false_or, and_self, and_true, true_and, Nat.le_refl, Nat.zero_add, Nat.mul_one, Nat.one_ne_zero, Nat.zero_le, highP, lowP, Option.map_some, Option.map_none, List.drop_zero, List.take_zero, List.length_cons, List.length_nil, List.nil_append, List.append_nil, List.cons_append, fillP, PV.cells?, PV.one, PV.cleans, PV.clean, PV.of?, List.all_cons, List.all_nil, List.take_succ_cons, List.drop_succ_cons, Bool.and_self, Int.natCast_nonneg, Int.toNat_natCast, Int.toNat_zero, h1, hif', Int.natCast_nonneg, Int.toNat_natCast, htf, List.getElem?_cons_zero, ht, b8, hlet, hlc, hw]
      | true =>
        have hfl : flipB (fAt fs i) s[i] = s[i] ^^^ 32 := by unfold flipB; rw [hfa, hlc]; rfl
        rw [hfl] at hp
        simp only [q25_1, q25_0, evL_op, evL_sel, evL_nx, evL_exit, evL_ret, evL_join, evL_block, evL_cond, evK_some, evJ_nx, evJ_rt, evJ_ex, evB_nx, evB_rt, evB_ex, evC2_bool, evS_and, evS_or, evS_tf, evS_ft, ev_t, ev_s, ev_c, evalOp, bin_add, bin_sub, bin_mul, bin_eql, bin_neq, bin_lss, bin_leq, bin_gtr, bin_geq, sbin_eql, sbin_neq, b8, List.map_cons, List.map_nil, PV.rens, PV.ren, if_true, if_false, Bool.false_eq_true, reduceIte, Nat.reduceAdd, Nat.reduceSub, Nat.reduceMul, Nat.reduceEqDiff, Nat.reduceLeDiff, Int.reduceLE, Int.reduceLT, Int.reduceEq, Int.reduceToNat, Int.reduceAdd, Int.reduceSub, Int.reduceNeg, decide_true, decide_false, Bool.not_true, Bool.not_false, Bool.true_and, Bool.false_and, Bool.and_true, Bool.and_false, Bool.or_true, Bool.true_or, Bool.or_false, Bool.false_or, and_self, and_true, true_and, Nat.le_refl, Nat.zero_add, Nat.mul_one, Nat.one_ne_zero, Nat.zero_le, highP, lowP, Option.map_some, Option.map_none, List.drop_zero, List.take_zero, List.length_cons, List.length_nil, List.nil_append, List.append_nil, List.cons_append, fillP, PV.cells?, PV.one, PV.cleans, PV.clean, PV.of?, List.all_cons, List.all_nil, List.take_succ_cons, List.drop_succ_cons, Bool.and_self, Int.natCast_nonneg, Int.toNat_natCast, Int.toNat_zero, h1, hif', Int.natCast_nonneg, Int.toNat_natCast, htf, List.getElem?_cons_zero, List.length_map, ht, b8, hlet, hlc, hw, bin_xor, xor_val, List.set_cons_zero, hle]
        rw [← hp]
        rfl
  · have hif' : ¬ ((i : Int) < fs.length) := by omega
    have hfa : fAt fs i = false := by unfold fAt; rw [List.getD_eq_getElem?_getD, List.getElem?_eq_none (by omega)]; rfl
    rw [stay (by unfold flipB; rw [hfa]; rfl)]
    simp only [q25_1, q25_0, evL_op, evL_sel, evL_nx, evL_exit, evL_ret, evL_join, evL_block, evL_cond, evK_some, evJ_nx, evJ_rt, evJ_ex, evB_nx, evB_rt, evB_ex, evC2_bool, evS_and, evS_or, evS_tf, evS_ft, ev_t, ev_s, ev_c, evalOp, bin_add, bin_sub, bin_mul, bin_eql, bin_neq, bin_lss, bin_leq, bin_gtr, bin_geq, sbin_eql, sbin_neq, b8, List.map_cons, List.map_nil, PV.rens, PV.ren, if_true, if_false, Bool.false_eq_true, reduceIte, Nat.reduceAdd, Nat.reduceSub, Nat.reduceMul, Nat.reduceEqDiff, Nat.reduceLeDiff, Int.reduceLE, Int.reduceLT, Int.reduceEq, Int.reduceToNat, Int.reduceAdd, Int.reduceSub, Int.reduceNeg, decide_true, decide_false, Bool.not_true, Bool.not_false, Bool.true_and, Bool.false_and, Bool.and_true, Bool.and_false, Bool.or_true, Bool.true_or, Bool.or_false, Bool.false_or, and_self, and_true, true_and, Nat.le_refl, Nat.zero_add, Nat.mul_one, Nat.one_ne_zero, Nat.zero_le, highP, lowP, Option.map_some, Option.map_none, List.drop_zero, List.take_zero, List.length_cons, List.length_nil, List.nil_append, List.append_nil, List.cons_append, fillP, PV.cells?, PV.one, PV.cleans, PV.clean, PV.of?, List.all_cons, List.all_nil, List.take_succ_cons, List.drop_succ_cons, Bool.and_self, Int.natCast_nonneg, Int.toNat_natCast, Int.toNat_zero, h1, hif', Int.natCast_nonneg, Int.toNat_natCast, hw]
theorem loop25 (k0 : Nat) (s : List UInt8) (fs : List Bool) (hs : s.length ≤ 9000000000000000000) (hf : fs.length ≤ 9000000000000000000) : ∀ (j i : Nat), i + j = s.length → ∀ k, j < k →
    loopL 1 (evL T k0 q25_1) k [.sl .no 1 fs.length (fs.map PV.bool), .row 0 0 1 s.length, .int .i64 i] [.cells ((sp25 s fs i).map b8)] = some (.ex 0, [.row 0 0 1 s.length], [.cells ((flipS s fs).map b8)])
  | j, i, hij, 0, hk => by omega
  | 0, i, hij, k + 1, hk => by
    obtain rfl : i = s.length := by omega
    have h1 : ¬ ((s.length : Int) < s.length) := by omega
    have h2 : sp25 s fs s.length = flipS s fs := by
      unfold sp25
      rw [List.take_of_length_le (by rw [flipS_len]; exact Nat.le_refl _), List.drop_of_length_le (Nat.le_refl _), List.append_nil]
    rw [loopL_succ, head25 _ _ rfl, h2]
    have h3 : evL T k0 q25_1 [.sl .no 1 fs.length (fs.map PV.bool), .row 0 0 1 s.length, .int .i64 s.length] [.cells ((flipS s fs).map b8)] = some (.ex 0, [.row 0 0 1 s.length], [.cells ((flipS s fs).map b8)]) := by simp only [q25_1, evL_op, evL_sel, evL_nx, evL_exit, evL_ret, evL_join, evL_block, evL_cond, evK_some, evJ_nx, evJ_rt, evJ_ex, evB_nx, evB_rt, evB_ex, evC2_bool, evS_and, evS_or, evS_tf, evS_ft, ev_t, ev_s, ev_c, evalOp, bin_add, bin_sub, bin_mul, bin_eql, bin_neq, bin_lss, bin_leq, bin_gtr, bin_geq, sbin_eql, sbin_neq, b8, List.map_cons, List.map_nil, PV.rens, PV.ren, if_true, if_false, Bool.false_eq_true, reduceIte, h1, decide_false]
    rw [h3]
  | j + 1, i, hij, k + 1, hk => by
    rw [loopL_succ, head25 _ _ rfl, body25 k0 s fs hs hf i (by omega)]
    exact loop25 k0 s fs hs hf j (i + 1) (by omega) k (by omega)
theorem T25 (s : List UInt8) (fs : List Bool) (hs : s.length ≤ 9000000000000000000) (hf : fs.length ≤ 9000000000000000000) : T 25 [.str s, .sl .no 1 fs.length (fs.map PV.bool)] [] = some (.str (flipS s fs), []) := by
  refine evT_of (k := s.length + 1) (F := l25) (H' := [.cells ((flipS s fs).map b8)]) (e := [.str (flipS s fs)]) (l := [.str (flipS s fs)]) rfl rfl rfl ?_ rfl rfl
  have hl := loop25 (s.length + 1) s fs hs hf s.length 0 (by omega) (s.length + 1) (by omega)
  have h0 : evL T (s.length + 1) q25 [.str s, .sl .no 1 fs.length (fs.map PV.bool)] [] = evJ T (s.length + 1) q25_2 (evB 0 (loopL 1 (evL T (s.length + 1) q25_1) (s.length + 1) [.sl .no 1 fs.length (fs.map PV.bool), .row 0 0 1 s.length, .int .i64 (0 : Nat)] [.cells ((sp25 s fs 0).map b8)])) := by
    have h2 : sp25 s fs 0 = s := by simp [sp25]
    rw [h2]
    rfl
  show evL T _ q25 _ _ = _
  rw [h0, hl]
  have hb := bytes8_b8 (flipS s fs)
  have hle : s.length ≤ ((flipS s fs).map b8).length := by simp [flipS_len]
  have ht : ((flipS s fs).map b8).take s.length = (flipS s fs).map b8 := List.take_of_length_le (by simp [flipS_len])
  simp only [q25_2, evL_op, evL_sel, evL_nx, evL_exit, evL_ret, evL_join, evL_block, evL_cond, evK_some, evJ_nx, evJ_rt, evJ_ex, evB_nx, evB_rt, evB_ex, evC2_bool, evS_and, evS_or, evS_tf, evS_ft, ev_t, ev_s, ev_c, evalOp, bin_add, bin_sub, bin_mul, bin_eql, bin_neq, bin_lss, bin_leq, bin_gtr, bin_geq, sbin_eql, sbin_neq, b8, List.map_cons, List.map_nil, PV.rens, PV.ren, if_true, if_false, Bool.false_eq_true, reduceIte, List.getElem?_cons_zero, Nat.zero_add, List.drop_zero, hle, ht, hb]
theorem lawPathFolds (p : Bool × List UInt8 × List UInt8) (hp : True ∧ p.2.1.length ≤ room ∧ p.2.2.length ≤ room) (fs : List Bool) (hf : fs.length ≤ room ∧ ∀ y ∈ fs, True) :
    evT lt ov 5 [.agg ([.bool p.1] ++ ([.str p.2.1] ++ [.str p.2.2])), .sl .no 1 fs.length (fs.map PV.bool)] [] = some (.bool true, []) := by
  obtain ⟨n, l, d⟩ := p
  obtain ⟨_, hl, hd⟩ := hp
  have hfl := hf.1
  simp only at hl hd
  unfold room at hl hd hfl
  show evT lt ov 5 [pathV n l d, .sl .no 1 fs.length (fs.map PV.bool)] [] = _
  have w1 : IntKind.i64.wrap ((l.length : Int) + d.length) = (l.length : Int) + d.length := IntWalk.i64_in _ (by omega)
  have fin : ∀ {H : Hp}, evL T 0 q5 [pathV n l d, .sl .no 1 fs.length (fs.map PV.bool)] [] = some (.rt, [.bool true], H) → evT lt ov 5 [pathV n l d, .sl .no 1 fs.length (fs.map PV.bool)] [] = some (.bool true, []) := fun {H} h =>
    evT_of (k := 0) (F := l5) (H' := H) (e := [.bool true]) (l := [.bool true]) rfl rfl rfl h rfl rfl
  by_cases hlen : (1000 : Int) < (l.length : Int) + d.length
  · refine fin (H := [.cells [.bool n, .str l, .str d]]) ?_
    simp only [q5, evL_op, evL_sel, evL_nx, evL_exit, evL_ret, evL_join, evL_block, evL_cond, evK_some, evJ_nx, evJ_rt, evJ_ex, evB_nx, evB_rt, evB_ex, evC2_bool, evS_and, evS_or, evS_tf, evS_ft, ev_t, ev_s, ev_c, evalOp, bin_add, bin_sub, bin_mul, bin_eql, bin_neq, bin_lss, bin_leq, bin_gtr, bin_geq, sbin_eql, sbin_neq, b8, List.map_cons, List.map_nil, PV.rens, PV.ren, if_true, if_false, Bool.false_eq_true, reduceIte, Nat.reduceAdd, Nat.reduceSub, Nat.reduceMul, Nat.reduceEqDiff, Nat.reduceLeDiff, Int.reduceLE, Int.reduceLT, Int.reduceEq, Int.reduceToNat, Int.reduceAdd, Int.reduceSub, Int.reduceNeg, decide_true, decide_false, Bool.not_true, Bool.not_false, Bool.true_and, Bool.false_and, Bool.and_true, Bool.and_false, Bool.or_true, Bool.true_or, Bool.or_false, Bool.false_or, and_self, and_true, true_and, Nat.le_refl, Nat.zero_add, Nat.mul_one, Nat.one_ne_zero, Nat.zero_le, highP, lowP, Option.map_some, Option.map_none, List.drop_zero, List.take_zero, List.length_cons, List.length_nil, List.nil_append, List.append_nil, List.cons_append, fillP, PV.cells?, PV.one, PV.cleans, PV.clean, PV.of?, List.all_cons, List.all_nil, List.take_succ_cons, List.drop_succ_cons, Bool.and_self, Int.natCast_nonneg, Int.toNat_natCast, Int.toNat_zero, w1, hlen, List.getElem?_cons_zero]
  · have a12 := T12 n l d (by omega) (by omega)
    cases hok : pathOk n l d with
    | false =>
      rw [hok] at a12
      refine fin (H := [.cells [.bool n, .str l, .str d]]) ?_
      simp only [q5, evL_op, evL_sel, evL_nx, evL_exit, evL_ret, evL_join, evL_block, evL_cond, evK_some, evJ_nx, evJ_rt, evJ_ex, evB_nx, evB_rt, evB_ex, evC2_bool, evS_and, evS_or, evS_tf, evS_ft, ev_t, ev_s, ev_c, evalOp, bin_add, bin_sub, bin_mul, bin_eql, bin_neq, bin_lss, bin_leq, bin_gtr, bin_geq, sbin_eql, sbin_neq, b8, List.map_cons, List.map_nil, PV.rens, PV.ren, if_true, if_false, Bool.false_eq_true, reduceIte, Nat.reduceAdd, Nat.reduceSub, Nat.reduceMul, Nat.reduceEqDiff, Nat.reduceLeDiff, Int.reduceLE, Int.reduceLT, Int.reduceEq, Int.reduceToNat, Int.reduceAdd, Int.reduceSub, Int.reduceNeg, decide_true, decide_false, Bool.not_true, Bool.not_false, Bool.true_and, Bool.false_and, Bool.and_true, Bool.and_false, Bool.or_true, Bool.true_or, Bool.or_false, Bool.false_or, and_self, and_true, true_and, Nat.le_refl, Nat.zero_add, Nat.mul_one, Nat.one_ne_zero, Nat.zero_le, highP, lowP, Option.map_some, Option.map_none, List.drop_zero, List.take_zero, List.length_cons, List.length_nil, List.nil_append, List.append_nil, List.cons_append, fillP, PV.cells?, PV.one, PV.cleans, PV.clean, PV.of?, List.all_cons, List.all_nil, List.take_succ_cons, List.drop_succ_cons, Bool.and_self, Int.natCast_nonneg, Int.toNat_natCast, Int.toNat_zero, w1, hlen, List.getElem?_cons_zero, a12]
    | true =>
      rw [hok] at a12
      cases n with
      | true =>
        refine fin (H := [.cells [.bool true, .str l, .str d]]) ?_
        simp only [q5, evL_op, evL_sel, evL_nx, evL_exit, evL_ret, evL_join, evL_block, evL_cond, evK_some, evJ_nx, evJ_rt, evJ_ex, evB_nx, evB_rt, evB_ex, evC2_bool, evS_and, evS_or, evS_tf, evS_ft, ev_t, ev_s, ev_c, evalOp, bin_add, bin_sub, bin_mul, bin_eql, bin_neq, bin_lss, bin_leq, bin_gtr, bin_geq, sbin_eql, sbin_neq, b8, List.map_cons, List.map_nil, PV.rens, PV.ren, if_true, if_false, Bool.false_eq_true, reduceIte, Nat.reduceAdd, Nat.reduceSub, Nat.reduceMul, Nat.reduceEqDiff, Nat.reduceLeDiff, Int.reduceLE, Int.reduceLT, Int.reduceEq, Int.reduceToNat, Int.reduceAdd, Int.reduceSub, Int.reduceNeg, decide_true, decide_false, Bool.not_true, Bool.not_false, Bool.true_and, Bool.false_and, Bool.and_true, Bool.and_false, Bool.or_true, Bool.true_or, Bool.or_false, Bool.false_or, and_self, and_true, true_and, Nat.le_refl, Nat.zero_add, Nat.mul_one, Nat.one_ne_zero, Nat.zero_le, highP, lowP, Option.map_some, Option.map_none, List.drop_zero, List.take_zero, List.length_cons, List.length_nil, List.nil_append, List.append_nil, List.cons_append, fillP, PV.cells?, PV.one, PV.cleans, PV.clean, PV.of?, List.all_cons, List.all_nil, List.take_succ_cons, List.drop_succ_cons, Bool.and_self, Int.natCast_nonneg, Int.toNat_natCast, Int.toNat_zero, w1, hlen, List.getElem?_cons_zero, a12]
      | false =>
        have hD : parts d 255 label = true := by
          simp only [pathOk, Bool.false_and, Bool.not_false, Bool.true_and, Bool.false_or, Bool.and_eq_true] at hok
          exact hok.2
        have hL : parts l 64 atom = true := by
          simp only [pathOk, Bool.false_and, Bool.not_false, Bool.true_and, Bool.false_or, Bool.and_eq_true] at hok
          exact hok.1
        have hDf : parts (flipS d fs) 255 label = true := by rw [← parts_fold, fold_flip, parts_fold]; exact hD
        have hokf : pathOk false l (flipS d fs) = true := by simp [pathOk, hL, hDf]
        have hfd := fold_flip d fs
        have hff : foldS (foldS (flipS d fs)) = foldS (flipS d fs) := by
          unfold foldS
          rw [List.map_map]
          apply List.map_congr_left
          intro c _
          exact fold_fold c
        have lf := flipS_len d fs
        have ll := flipS_len l fs
        have a25 := T25 d fs (by omega) (by omega)
        have b25 := T25 l fs (by omega) (by omega)
        have a22 := T22 (flipS d fs) (by omega)
        have b22 := T22 (foldS (flipS d fs)) (by simp [foldS]; omega)
        have c22 := T22 d (by omega)
        have a18 := T18 false false l d l (flipS d fs) (by omega) (by omega)
        have b18 := T18 false false l (flipS d fs) l d (by omega) (by omega)
        have c18 := T18 false false l d (flipS l fs) d (by omega) (by omega)
        have a20 := T20 false l d (flipS d fs) (by omega) (by omega)
        have a14 := T14 (flipS d fs) (by omega)
        have e1 : sameP false l d false l (flipS d fs) = true := by simp [sameP, hok, hokf, hfd]
        have e2 : sameP false l (flipS d fs) false l d = true := by simp [sameP, hok, hokf, hfd]
        have e3 : sameP false l d false (flipS l fs) d = decide (flipS l fs = l) := by
          by_cases h : flipS l fs = l
          · rw [h]; simp [sameP, hok]
          · have h2 : ¬ l = flipS l fs := fun e => h e.symm
            simp [sameP, h, h2]
        have e4 : atP false l d (flipS d fs) = true := by simp [atP, hok, hfd]
        rw [e1] at a18
        rw [e2] at b18
        rw [e3] at c18
        rw [e4] at a20
        rw [hDf] at a14
        rw [hff] at b22
        rw [hfd] at a22 b22 
        refine fin (H := [.cells [.bool false, .str l, .str d], .cells [.bool false, .str l, .str (flipS d fs)], .cells [.bool false, .str (flipS l fs), .str d]]) ?_
        cases hdd : decide (flipS l fs = l) <;> rw [hdd] at c18 <;>
        simp only [q5, evL_op, evL_sel, evL_nx, evL_exit, evL_ret, evL_join, evL_block, evL_cond, evK_some, evJ_nx, evJ_rt, evJ_ex, evB_nx, evB_rt, evB_ex, evC2_bool, evS_and, evS_or, evS_tf, evS_ft, ev_t, ev_s, ev_c, evalOp, bin_add, bin_sub, bin_mul, bin_eql, bin_neq, bin_lss, bin_leq, bin_gtr, bin_geq, sbin_eql, sbin_neq, b8, List.map_cons, List.map_nil, PV.rens, PV.ren, if_true, if_false, Bool.false_eq_true, reduceIte, Nat.reduceAdd, Nat.reduceSub, Nat.reduceMul, Nat.reduceEqDiff, Nat.reduceLeDiff, Int.reduceLE, Int.reduceLT, Int.reduceEq, Int.reduceToNat, Int.reduceAdd, Int.reduceSub, Int.reduceNeg, decide_true, decide_false, Bool.not_true, Bool.not_false, Bool.true_and, Bool.false_and, Bool.and_true, Bool.and_false, Bool.or_true, Bool.true_or, Bool.or_false, Bool.false_or, and_self, and_true, true_and, Nat.le_refl, Nat.zero_add, Nat.mul_one, Nat.one_ne_zero, Nat.zero_le, highP, lowP, Option.map_some, Option.map_none, List.drop_zero, List.take_zero, List.length_cons, List.length_nil, List.nil_append, List.append_nil, List.cons_append, fillP, PV.cells?, PV.one, PV.cleans, PV.clean, PV.of?, List.all_cons, List.all_nil, List.take_succ_cons, List.drop_succ_cons, Bool.and_self, Int.natCast_nonneg, Int.toNat_natCast, Int.toNat_zero, w1, hlen, List.getElem?_cons_zero, List.getElem?_cons_succ, List.set_cons_zero, List.set_cons_succ, a12, a25, b25, a22, b22, c22, a18, b18, c18, a20, a14, T24, hdd, Tk.ren, PV.isBot, PV.id?, ne_eq, Nat.succ_ne_self, not_false_eq_true, or_self, beq_self_eq_true, Bool.xor_self, Bool.false_xor]
end Go.Proofs.YtgilfigaimndkaaDoor.Tab
