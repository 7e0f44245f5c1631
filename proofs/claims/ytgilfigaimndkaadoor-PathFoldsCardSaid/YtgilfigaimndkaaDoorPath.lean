/- Chapter 11: what the functions of path do. -/
import Derived.Test.YtgilfigaimndkaaDoorOvs
import Derived.Test.YtgilfigaimndkaaDoorEv28
namespace Go.Proofs.YtgilfigaimndkaaDoor.Tab
set_option linter.all false
open Go Go.RowKit Go.Proofs.YtgilfigaimndkaaDoor.Ev
noncomputable abbrev T : Cl := evT lt ov
def plain (c : UInt8) : Bool := decide ((97 : Int) ≤ c.toNat) && decide ((c.toNat : Int) ≤ 122) || decide ((65 : Int) ≤ c.toNat) && decide ((c.toNat : Int) ≤ 90) || decide ((48 : Int) ≤ c.toNat) && decide ((c.toNat : Int) ≤ 57)
theorem T44 (c : UInt8) : T 44 [.int .u8 c.toNat] [] = some (.bool (plain c), []) := by
  refine evT_of (k := 0) (F := l44) (H' := []) (e := [.bool (plain c)]) (l := [.bool (plain c)]) rfl rfl rfl ?_ rfl rfl
  simp only [l44, q44, evL_op, evL_sel, evL_nx, evL_exit, evL_ret, evL_join, evL_block, evL_cond, evK_some, evJ_nx, evJ_rt, evJ_ex, evB_nx, evB_rt, evB_ex, evC2_bool, evS_and, evS_or, evS_tf, evS_ft, ev_t, ev_s, ev_c, evalOp, bin_add, bin_sub, bin_mul, bin_eql, bin_neq, bin_lss, bin_leq, bin_gtr, bin_geq, sbin_eql, sbin_neq, b8, List.map_cons, List.map_nil, PV.rens, PV.ren, if_true, if_false, Bool.false_eq_true, reduceIte, plain]

def labelC (c : UInt8) : Bool := plain c || c == 45
theorem labelC_eq (c : UInt8) : (!plain c && !decide ((c.toNat : Int) = 45)) = !labelC c := by
  have := byte_ne c 45 (by omega)
  rw [show ((45 : Nat) : Int) = 45 from rfl] at this
  unfold labelC
  rw [this, Bool.not_or]
  rfl
theorem flat3 (s : List UInt8) (n i : Int) : ([PV.str s, .int .i64 n, .int .i64 i]).all flat = true := rfl
section
variable {H : Hp} (hH : Quiet H)
include hH
theorem body33 (k0 : Nat) (s : List UInt8) (n : Int) (i : Nat) (c : UInt8) (hn : (i : Int) < n) (hm : n ≤ 9000000000000000000) (hc : s[i]? = some c) : evL T k0 q33_1 [.str s, .int .i64 n, .int .i64 i] H =
    if labelC c = true then some (.nx, [.str s, .int .i64 n, .int .i64 (i + 1 : Nat)], H) else some (.rt, [.bool false], H) := by
  have hw : IntKind.i64.wrap ((i : Int) + 1) = ((i + 1 : Nat) : Int) := by rw [IntWalk.i64_in _ (by omega)]; rfl
  simp only [q33_1, q33_0, evL_op, evL_sel, evL_nx, evL_exit, evL_ret, evL_join, evL_block, evL_cond, evK_some, evJ_nx, evJ_rt, evJ_ex, evB_nx, evB_rt, evB_ex, evC2_bool, evS_and, evS_or, evS_tf, evS_ft, ev_t, ev_s, ev_c, evalOp, bin_add, bin_sub, bin_mul, bin_eql, bin_neq, bin_lss, bin_leq, bin_gtr, bin_geq, sbin_eql, sbin_neq, b8, List.map_cons, List.map_nil, PV.rens, PV.ren, if_true, if_false, Bool.false_eq_true, reduceIte, hn, decide_true, Int.natCast_nonneg, Int.toNat_natCast, hc, T44]
  rw [labelC_eq]
  cases labelC c with
  | true => simp only [evL_op, evL_sel, evL_nx, evL_exit, evL_ret, evL_join, evL_block, evL_cond, evK_some, evJ_nx, evJ_rt, evJ_ex, evB_nx, evB_rt, evB_ex, evC2_bool, evS_and, evS_or, evS_tf, evS_ft, ev_t, ev_s, ev_c, evalOp, bin_add, bin_sub, bin_mul, bin_eql, bin_neq, bin_lss, bin_leq, bin_gtr, bin_geq, sbin_eql, sbin_neq, b8, List.map_cons, List.map_nil, PV.rens, PV.ren, if_true, if_false, Bool.false_eq_true, reduceIte, Bool.not_true, hw]
  | false => simp only [evL_op, evL_sel, evL_nx, evL_exit, evL_ret, evL_join, evL_block, evL_cond, evK_some, evJ_nx, evJ_rt, evJ_ex, evB_nx, evB_rt, evB_ex, evC2_bool, evS_and, evS_or, evS_tf, evS_ft, ev_t, ev_s, ev_c, evalOp, bin_add, bin_sub, bin_mul, bin_eql, bin_neq, bin_lss, bin_leq, bin_gtr, bin_geq, sbin_eql, sbin_neq, b8, List.map_cons, List.map_nil, PV.rens, PV.ren, if_true, if_false, Bool.false_eq_true, reduceIte, Bool.not_false]
theorem loop33 (k0 : Nat) (s : List UInt8) (hs : s.length ≤ 9000000000000000000) : ∀ (j i : Nat), i + j = s.length → ∀ k, j < k → loopL H.length (evL T k0 q33_1) k [.str s, .int .i64 s.length, .int .i64 i] H =
    if (s.drop i).all labelC = true then some (.ex 0, [.str s], H) else some (.rt, [.bool false], H)
  | j, i, hij, 0, hk => by omega
  | 0, i, hij, k + 1, _ => by
    have h1 : ¬ ((i : Int) < s.length) := by omega
    have h2 : s.drop i = [] := List.drop_of_length_le (by omega)
    have h3 : evL T k0 q33_1 [.str s, .int .i64 s.length, .int .i64 i] H = some (.ex 0, [.str s], H) := by simp only [q33_1, evL_op, evL_sel, evL_nx, evL_exit, evL_ret, evL_join, evL_block, evL_cond, evK_some, evJ_nx, evJ_rt, evJ_ex, evB_nx, evB_rt, evB_ex, evC2_bool, evS_and, evS_or, evS_tf, evS_ft, ev_t, ev_s, ev_c, evalOp, bin_add, bin_sub, bin_mul, bin_eql, bin_neq, bin_lss, bin_leq, bin_gtr, bin_geq, sbin_eql, sbin_neq, b8, List.map_cons, List.map_nil, PV.rens, PV.ren, if_true, if_false, Bool.false_eq_true, reduceIte, h1, decide_false]
    rw [loopL_succ, hH.head (flat3 _ _ _), h3, h2]
    rfl
  | j + 1, i, hij, k + 1, hk => by
    have hi : i < s.length := by omega
    rw [loopL_succ, hH.head (flat3 _ _ _), body33 hH k0 s s.length i s[i] (by omega) (by omega) (List.getElem?_eq_getElem hi), List.drop_eq_getElem_cons hi, List.all_cons]
    cases labelC s[i] with
    | true => simp only [if_true, Bool.true_and]; exact loop33 k0 s hs j (i + 1) (by omega) k (by omega)
    | false => simp only [Bool.false_eq_true, if_false, Bool.false_and]
def label (s : List UInt8) : Bool := s.all labelC && !decide (s = []) && decide ((s.length : Int) ≤ 63) && !(s.head? == some 45) && !(s.getLast? == some 45)
theorem T33 (s : List UInt8) (hs : s.length ≤ 9000000000000000000) : T 33 [.str s] H = some (.bool (label s), H) := by
  refine evT_of (k := s.length + 1) (F := l33) (H' := H) (e := [.bool (label s)]) (l := [.bool (label s)]) rfl rfl rfl ?_ rfl (hH.fin rfl)
  have hl := loop33 hH (s.length + 1) s hs s.length 0 (by omega) (s.length + 1) (by omega)
  have h0 : evL T (s.length + 1) q33 [.str s] H = evJ T (s.length + 1) q33_2 (evB 0 (loopL H.length (evL T (s.length + 1) q33_1) (s.length + 1) [.str s, .int .i64 s.length, .int .i64 (0 : Nat)] H)) := rfl
  show evL T (s.length + 1) q33 [.str s] H = _
  rw [h0, hl, List.drop_zero]
  unfold label
  cases s.all labelC with
  | false => simp only [evL_op, evL_sel, evL_nx, evL_exit, evL_ret, evL_join, evL_block, evL_cond, evK_some, evJ_nx, evJ_rt, evJ_ex, evB_nx, evB_rt, evB_ex, evC2_bool, evS_and, evS_or, evS_tf, evS_ft, ev_t, ev_s, ev_c, evalOp, bin_add, bin_sub, bin_mul, bin_eql, bin_neq, bin_lss, bin_leq, bin_gtr, bin_geq, sbin_eql, sbin_neq, b8, List.map_cons, List.map_nil, PV.rens, PV.ren, if_true, if_false, Bool.false_eq_true, reduceIte, Bool.false_and]
  | true =>
    simp only [evL_op, evL_sel, evL_nx, evL_exit, evL_ret, evL_join, evL_block, evL_cond, evK_some, evJ_nx, evJ_rt, evJ_ex, evB_nx, evB_rt, evB_ex, evC2_bool, evS_and, evS_or, evS_tf, evS_ft, ev_t, ev_s, ev_c, evalOp, bin_add, bin_sub, bin_mul, bin_eql, bin_neq, bin_lss, bin_leq, bin_gtr, bin_geq, sbin_eql, sbin_neq, b8, List.map_cons, List.map_nil, PV.rens, PV.ren, if_true, if_false, Bool.false_eq_true, reduceIte, Bool.true_and]
    cases s with
    | nil => simp only [q33_2, evL_op, evL_sel, evL_nx, evL_exit, evL_ret, evL_join, evL_block, evL_cond, evK_some, evJ_nx, evJ_rt, evJ_ex, evB_nx, evB_rt, evB_ex, evC2_bool, evS_and, evS_or, evS_tf, evS_ft, ev_t, ev_s, ev_c, evalOp, bin_add, bin_sub, bin_mul, bin_eql, bin_neq, bin_lss, bin_leq, bin_gtr, bin_geq, sbin_eql, sbin_neq, b8, List.map_cons, List.map_nil, PV.rens, PV.ren, if_true, if_false, Bool.false_eq_true, reduceIte, decide_true, Bool.not_true, Bool.false_and]
    | cons a r =>
      have hidx : (a :: r)[Int.toNat 0]? = some a := rfl
      have h1 : (!decide ((a.toNat : Int) = 45)) = !(a == 45) := byte_ne a 45 (by omega)
      obtain ⟨z, hz⟩ : ∃ z, (a :: r).getLast? = some z := ⟨_, List.getLast?_eq_some_getLast (by simp)⟩
      have hz' : (a :: r)[(a :: r).length - 1]? = some z := by rw [← List.getLast?_eq_getElem?]; exact hz
      have h2 : (!decide ((z.toNat : Int) = 45)) = !(z == 45) := byte_ne z 45 (by omega)
      have hw : IntKind.i64.wrap (((a :: r).length : Int) - 1) = (((a :: r).length - 1 : Nat) : Int) := by
        rw [IntWalk.i64_in _ (by simp only [List.length_cons] at hs ⊢; omega)]; simp only [List.length_cons]; omega
      simp only [q33_2, evL_op, evL_sel, evL_nx, evL_exit, evL_ret, evL_join, evL_block, evL_cond, evK_some, evJ_nx, evJ_rt, evJ_ex, evB_nx, evB_rt, evB_ex, evC2_bool, evS_and, evS_or, evS_tf, evS_ft, ev_t, ev_s, ev_c, evalOp, bin_add, bin_sub, bin_mul, bin_eql, bin_neq, bin_lss, bin_leq, bin_gtr, bin_geq, sbin_eql, sbin_neq, b8, List.map_cons, List.map_nil, PV.rens, PV.ren, if_true, if_false, Bool.false_eq_true, reduceIte, decide_false, Bool.not_false, Int.le_refl, hidx, hw, Int.natCast_nonneg, Int.toNat_natCast, hz', h1, h2, reduceCtorEq, List.head?_cons, hz, Option.some_beq_some, Bool.true_and]

/-! ### atom -/
end
def signs : List UInt8 := [33, 35, 36, 37, 38, 39, 42, 43, 45, 47, 61, 63, 94, 95, 96, 123, 124, 125, 126]
def atomC (c : UInt8) : Bool := plain c || signs.contains c
theorem T45 (s : List UInt8) (c : UInt8) : T 45 [.str s, .int .u8 c.toNat] [] = some (.int .i64 (idxB s c), []) := by
  refine evT_ov (φ := ovIB) rfl ?_
  show some (PV.int .i64 (idxB s (c.toNat : Int).toNat.toUInt8), ([] : Hp)) = _
  rw [byte_back]
section
variable {H : Hp} (hH : Quiet H)
include hH
theorem body32 (k0 : Nat) (s : List UInt8) (n : Int) (i : Nat) (c : UInt8) (hn : (i : Int) < n) (hm : n ≤ 9000000000000000000) (hc : s[i]? = some c) : evL T k0 q32_1 [.str s, .int .i64 n, .int .i64 i] H =
    if atomC c = true then some (.nx, [.str s, .int .i64 n, .int .i64 (i + 1 : Nat)], H) else some (.rt, [.bool false], H) := by
  have hw : IntKind.i64.wrap ((i : Int) + 1) = ((i + 1 : Nat) : Int) := by rw [IntWalk.i64_in _ (by omega)]; rfl
  have h45 := T45 signs c
  unfold signs at h45
  simp only [q32_1, q32_0, evL_op, evL_sel, evL_nx, evL_exit, evL_ret, evL_join, evL_block, evL_cond, evK_some, evJ_nx, evJ_rt, evJ_ex, evB_nx, evB_rt, evB_ex, evC2_bool, evS_and, evS_or, evS_tf, evS_ft, ev_t, ev_s, ev_c, evalOp, bin_add, bin_sub, bin_mul, bin_eql, bin_neq, bin_lss, bin_leq, bin_gtr, bin_geq, sbin_eql, sbin_neq, b8, List.map_cons, List.map_nil, PV.rens, PV.ren, if_true, if_false, Bool.false_eq_true, reduceIte, hn, decide_true, Int.natCast_nonneg, Int.toNat_natCast, hc, T44, h45, idxB_neg]
  have : (!plain c && !(List.contains [33, 35, 36, 37, 38, 39, 42, 43, 45, 47, 61, 63, 94, 95, 96, 123, 124, 125, 126] c)) = !atomC c := by
    unfold atomC signs; rw [Bool.not_or]
  rw [this]
  cases atomC c with
  | true => simp only [evL_op, evL_sel, evL_nx, evL_exit, evL_ret, evL_join, evL_block, evL_cond, evK_some, evJ_nx, evJ_rt, evJ_ex, evB_nx, evB_rt, evB_ex, evC2_bool, evS_and, evS_or, evS_tf, evS_ft, ev_t, ev_s, ev_c, evalOp, bin_add, bin_sub, bin_mul, bin_eql, bin_neq, bin_lss, bin_leq, bin_gtr, bin_geq, sbin_eql, sbin_neq, b8, List.map_cons, List.map_nil, PV.rens, PV.ren, if_true, if_false, Bool.false_eq_true, reduceIte, Bool.not_true, hw]
  | false => simp only [evL_op, evL_sel, evL_nx, evL_exit, evL_ret, evL_join, evL_block, evL_cond, evK_some, evJ_nx, evJ_rt, evJ_ex, evB_nx, evB_rt, evB_ex, evC2_bool, evS_and, evS_or, evS_tf, evS_ft, ev_t, ev_s, ev_c, evalOp, bin_add, bin_sub, bin_mul, bin_eql, bin_neq, bin_lss, bin_leq, bin_gtr, bin_geq, sbin_eql, sbin_neq, b8, List.map_cons, List.map_nil, PV.rens, PV.ren, if_true, if_false, Bool.false_eq_true, reduceIte, Bool.not_false]
theorem loop32 (k0 : Nat) (s : List UInt8) (hs : s.length ≤ 9000000000000000000) : ∀ (j i : Nat), i + j = s.length → ∀ k, j < k → loopL H.length (evL T k0 q32_1) k [.str s, .int .i64 s.length, .int .i64 i] H =
    if (s.drop i).all atomC = true then some (.ex 0, [.str s], H) else some (.rt, [.bool false], H)
  | j, i, hij, 0, hk => by omega
  | 0, i, hij, k + 1, _ => by
    have h1 : ¬ ((i : Int) < s.length) := by omega
    have h2 : s.drop i = [] := List.drop_of_length_le (by omega)
    have h3 : evL T k0 q32_1 [.str s, .int .i64 s.length, .int .i64 i] H = some (.ex 0, [.str s], H) := by simp only [q32_1, evL_op, evL_sel, evL_nx, evL_exit, evL_ret, evL_join, evL_block, evL_cond, evK_some, evJ_nx, evJ_rt, evJ_ex, evB_nx, evB_rt, evB_ex, evC2_bool, evS_and, evS_or, evS_tf, evS_ft, ev_t, ev_s, ev_c, evalOp, bin_add, bin_sub, bin_mul, bin_eql, bin_neq, bin_lss, bin_leq, bin_gtr, bin_geq, sbin_eql, sbin_neq, b8, List.map_cons, List.map_nil, PV.rens, PV.ren, if_true, if_false, Bool.false_eq_true, reduceIte, h1, decide_false]
    rw [loopL_succ, hH.head (flat3 _ _ _), h3, h2]
    rfl
  | j + 1, i, hij, k + 1, hk => by
    have hi : i < s.length := by omega
    rw [loopL_succ, hH.head (flat3 _ _ _), body32 hH k0 s s.length i s[i] (by omega) (by omega) (List.getElem?_eq_getElem hi), List.drop_eq_getElem_cons hi, List.all_cons]
    cases atomC s[i] with
    | true => simp only [if_true, Bool.true_and]; exact loop32 k0 s hs j (i + 1) (by omega) k (by omega)
    | false => simp only [Bool.false_eq_true, if_false, Bool.false_and]
def atom (s : List UInt8) : Bool := s.all atomC && !decide (s = [])
theorem T32 (s : List UInt8) (hs : s.length ≤ 9000000000000000000) : T 32 [.str s] H = some (.bool (atom s), H) := by
  refine evT_of (k := s.length + 1) (F := l32) (H' := H) (e := [.bool (atom s)]) (l := [.bool (atom s)]) rfl rfl rfl ?_ rfl (hH.fin rfl)
  have hl := loop32 hH (s.length + 1) s hs s.length 0 (by omega) (s.length + 1) (by omega)
  have h0 : evL T (s.length + 1) q32 [.str s] H = evJ T (s.length + 1) q32_2 (evB 0 (loopL H.length (evL T (s.length + 1) q32_1) (s.length + 1) [.str s, .int .i64 s.length, .int .i64 (0 : Nat)] H)) := rfl
  show evL T (s.length + 1) q32 [.str s] H = _
  rw [h0, hl, List.drop_zero]
  unfold atom
  cases s.all atomC with
  | false => simp only [evL_op, evL_sel, evL_nx, evL_exit, evL_ret, evL_join, evL_block, evL_cond, evK_some, evJ_nx, evJ_rt, evJ_ex, evB_nx, evB_rt, evB_ex, evC2_bool, evS_and, evS_or, evS_tf, evS_ft, ev_t, ev_s, ev_c, evalOp, bin_add, bin_sub, bin_mul, bin_eql, bin_neq, bin_lss, bin_leq, bin_gtr, bin_geq, sbin_eql, sbin_neq, b8, List.map_cons, List.map_nil, PV.rens, PV.ren, if_true, if_false, Bool.false_eq_true, reduceIte, Bool.false_and]
  | true => simp only [q32_2, evL_op, evL_sel, evL_nx, evL_exit, evL_ret, evL_join, evL_block, evL_cond, evK_some, evJ_nx, evJ_rt, evJ_ex, evB_nx, evB_rt, evB_ex, evC2_bool, evS_and, evS_or, evS_tf, evS_ft, ev_t, ev_s, ev_c, evalOp, bin_add, bin_sub, bin_mul, bin_eql, bin_neq, bin_lss, bin_leq, bin_gtr, bin_geq, sbin_eql, sbin_neq, b8, List.map_cons, List.map_nil, PV.rens, PV.ren, if_true, if_false, Bool.false_eq_true, reduceIte, Bool.true_and]
end

/-! ### parts -/
theorem T43 (p : Nat) (s : List UInt8) (b : Bool) (h : T p [.str s] [.cells [.fn p []]] = some (.bool b, [.cells [.fn p []]])) : T 43 [.str s, .ptr 0 0] [.cells [.fn p []]] = some (.bool !b, [.cells [.fn p []]]) := by
  refine evT_of (k := 0) (F := l43) (H' := [.cells [.fn p []]]) (e := [.bool !b]) (l := [.bool !b]) rfl rfl rfl ?_ rfl rfl
  simp only [l43, q43, evL_op, evL_sel, evL_nx, evL_exit, evL_ret, evL_join, evL_block, evL_cond, evK_some, evJ_nx, evJ_rt, evJ_ex, evB_nx, evB_rt, evB_ex, evC2_bool, evS_and, evS_or, evS_tf, evS_ft, ev_t, ev_s, ev_c, evalOp, bin_add, bin_sub, bin_mul, bin_eql, bin_neq, bin_lss, bin_leq, bin_gtr, bin_geq, sbin_eql, sbin_neq, b8, List.map_cons, List.map_nil, PV.rens, PV.ren, if_true, if_false, Bool.false_eq_true, reduceIte, List.getElem?_cons_zero, List.drop_zero, List.take_succ_cons, List.take_zero, PV.of?, List.length_cons, List.length_nil, List.append_nil, List.cons_append, List.nil_append, h]
theorem head49 (p : Nat) (n m i : Int) (l : Nat) (cs : List PV) : headS 1 [.sl .no 1 l cs, .fn 43 [.ptr 0 0], .int .i64 n, .int .i64 i] [.cells [.fn p []]] = ([.sl .no 1 l cs, .fn 43 [.ptr 0 0], .int .i64 n, .int .i64 i], [.cells [.fn p []]]) := rfl
theorem take1 {L : List (List UInt8)} {i : Nat} {s : List UInt8} (h : L[i]? = some s) : ((L.map PV.str).drop (i * 1)).take 1 = [PV.str s] := by
  have hi : i < L.length := (List.getElem?_eq_some_iff.1 h).1
  have e : L[i] = s := (List.getElem?_eq_some_iff.1 h).2
  rw [Nat.mul_one, ← List.map_drop, List.drop_eq_getElem_cons hi, List.map_cons, e]
  rfl
theorem body49 (k0 p : Nat) (L : List (List UInt8)) (n : Int) (i : Nat) (s : List UInt8) (b : Bool) (hs : L[i]? = some s) (hn : n = L.length) (hm : n ≤ 9000000000000000000) (h : T p [.str s] [.cells [.fn p []]] = some (.bool b, [.cells [.fn p []]])) :
    evL T k0 q49_1 [.sl .no 1 L.length (L.map PV.str), .fn 43 [.ptr 0 0], .int .i64 n, .int .i64 i] [.cells [.fn p []]] =
    if b = true then some (.nx, [.sl .no 1 L.length (L.map PV.str), .fn 43 [.ptr 0 0], .int .i64 n, .int .i64 (i + 1 : Nat)], [.cells [.fn p []]]) else some (.rt, [.int .i64 i], [.cells [.fn p []]]) := by
  have hi : i < L.length := (List.getElem?_eq_some_iff.1 hs).1
  have hw : IntKind.i64.wrap ((i : Int) + 1) = ((i + 1 : Nat) : Int) := by rw [IntWalk.i64_in _ (by omega)]; rfl
  have h1 : (i : Int) < L.length := by omega
  have h43 := T43 p s b h
  subst hn
  simp only [q49_1, q49_0, evL_op, evL_sel, evL_nx, evL_exit, evL_ret, evL_join, evL_block, evL_cond, evK_some, evJ_nx, evJ_rt, evJ_ex, evB_nx, evB_rt, evB_ex, evC2_bool, evS_and, evS_or, evS_tf, evS_ft, ev_t, ev_s, ev_c, evalOp, bin_add, bin_sub, bin_mul, bin_eql, bin_neq, bin_lss, bin_leq, bin_gtr, bin_geq, sbin_eql, sbin_neq, b8, List.map_cons, List.map_nil, PV.rens, PV.ren, if_true, if_false, Bool.false_eq_true, reduceIte, h1, decide_true, Int.natCast_nonneg, Int.toNat_natCast, take1 hs, and_self, PV.of?, List.drop_zero, List.take_succ_cons, List.take_zero, List.length_cons, List.length_nil, List.cons_append, List.nil_append, h43]
  cases b with
  | true => simp only [evL_op, evL_sel, evL_nx, evL_exit, evL_ret, evL_join, evL_block, evL_cond, evK_some, evJ_nx, evJ_rt, evJ_ex, evB_nx, evB_rt, evB_ex, evC2_bool, evS_and, evS_or, evS_tf, evS_ft, ev_t, ev_s, ev_c, evalOp, bin_add, bin_sub, bin_mul, bin_eql, bin_neq, bin_lss, bin_leq, bin_gtr, bin_geq, sbin_eql, sbin_neq, b8, List.map_cons, List.map_nil, PV.rens, PV.ren, if_true, if_false, Bool.false_eq_true, reduceIte, Bool.not_true, hw]
  | false => simp only [evL_op, evL_sel, evL_nx, evL_exit, evL_ret, evL_join, evL_block, evL_cond, evK_some, evJ_nx, evJ_rt, evJ_ex, evB_nx, evB_rt, evB_ex, evC2_bool, evS_and, evS_or, evS_tf, evS_ft, ev_t, ev_s, ev_c, evalOp, bin_add, bin_sub, bin_mul, bin_eql, bin_neq, bin_lss, bin_leq, bin_gtr, bin_geq, sbin_eql, sbin_neq, b8, List.map_cons, List.map_nil, PV.rens, PV.ren, if_true, if_false, Bool.false_eq_true, reduceIte, Bool.not_false]
theorem loop49 (k0 p : Nat) (L : List (List UInt8)) (f : List UInt8 → Bool) (hl : L.length ≤ 9000000000000000000) (h : ∀ s ∈ L, T p [.str s] [.cells [.fn p []]] = some (.bool (f s), [.cells [.fn p []]])) : ∀ (j i : Nat), i + j = L.length → ∀ k, j < k →
    ((L.drop i).all f = true ∧ loopL 1 (evL T k0 q49_1) k [.sl .no 1 L.length (L.map PV.str), .fn 43 [.ptr 0 0], .int .i64 L.length, .int .i64 i] [.cells [.fn p []]] = some (.ex 0, [], [.cells [.fn p []]])) ∨
    ((L.drop i).all f = false ∧ ∃ z : Nat, loopL 1 (evL T k0 q49_1) k [.sl .no 1 L.length (L.map PV.str), .fn 43 [.ptr 0 0], .int .i64 L.length, .int .i64 i] [.cells [.fn p []]] = some (.rt, [.int .i64 z], [.cells [.fn p []]]))
  | j, i, hij, 0, hk => by omega
  | 0, i, hij, k + 1, _ => by
    have h1 : ¬ ((i : Int) < L.length) := by omega
    have h2 : L.drop i = [] := List.drop_of_length_le (by omega)
    have h3 : evL T k0 q49_1 [.sl .no 1 L.length (L.map PV.str), .fn 43 [.ptr 0 0], .int .i64 L.length, .int .i64 i] [.cells [.fn p []]] = some (.ex 0, [], [.cells [.fn p []]]) := by simp only [q49_1, evL_op, evL_sel, evL_nx, evL_exit, evL_ret, evL_join, evL_block, evL_cond, evK_some, evJ_nx, evJ_rt, evJ_ex, evB_nx, evB_rt, evB_ex, evC2_bool, evS_and, evS_or, evS_tf, evS_ft, ev_t, ev_s, ev_c, evalOp, bin_add, bin_sub, bin_mul, bin_eql, bin_neq, bin_lss, bin_leq, bin_gtr, bin_geq, sbin_eql, sbin_neq, b8, List.map_cons, List.map_nil, PV.rens, PV.ren, if_true, if_false, Bool.false_eq_true, reduceIte, h1, decide_false]
    refine .inl ⟨by rw [h2]; rfl, ?_⟩
    rw [loopL_succ, head49 p _ 0, h3]
  | j + 1, i, hij, k + 1, hk => by
    have hi : i < L.length := by omega
    have hb := body49 k0 p L L.length i L[i] (f L[i]) (List.getElem?_eq_getElem hi) rfl (by omega) (h _ (List.getElem_mem hi))
    rw [loopL_succ, head49 p _ 0, hb, List.drop_eq_getElem_cons hi, List.all_cons]
    cases f L[i] with
    | true => simp only [if_true, Bool.true_and]; exact loop49 k0 p L f hl h j (i + 1) (by omega) k (by omega)
    | false => exact .inr ⟨by simp, i, by simp only [Bool.false_eq_true, if_false]⟩
theorem T41 (p : Nat) (L : List (List UInt8)) (f : List UInt8 → Bool) (hl : L.length ≤ 9000000000000000000) (h : ∀ s ∈ L, T p [.str s] [.cells [.fn p []]] = some (.bool (f s), [.cells [.fn p []]])) :
    T 41 [.sl .no 1 L.length (L.map PV.str), .fn 43 [.ptr 0 0]] [.cells [.fn p []]] = some (.bool !(L.all f), [.cells [.fn p []]]) := by
  have h49 : ∃ z : Int, T 49 [.sl .no 1 L.length (L.map PV.str), .fn 43 [.ptr 0 0]] [.cells [.fn p []]] = some (.int .i64 z, [.cells [.fn p []]]) ∧ decide (0 ≤ z) = !(L.all f) := by
    have hlp := loop49 (L.length + 1) p L f hl h L.length 0 (by omega) (L.length + 1) (by omega)
    rw [List.drop_zero] at hlp
    have h0 : evL T (L.length + 1) q49 [.sl .no 1 L.length (L.map PV.str), .fn 43 [.ptr 0 0]] [.cells [.fn p []]] = evJ T (L.length + 1) q49_2 (evB 0 (loopL 1 (evL T (L.length + 1) q49_1) (L.length + 1) [.sl .no 1 L.length (L.map PV.str), .fn 43 [.ptr 0 0], .int .i64 L.length, .int .i64 (0 : Nat)] [.cells [.fn p []]])) := rfl
    rcases hlp with ⟨h1, h2⟩ | ⟨h1, z, h2⟩
    · refine ⟨-1, evT_of (k := L.length + 1) (F := l49) (H' := [.cells [.fn p []]]) (e := [.int .i64 (-1)]) (l := [.int .i64 (-1)]) rfl rfl rfl ?_ rfl rfl, by rw [h1]; rfl⟩
      show evL T (L.length + 1) q49 _ _ = _
      rw [h0, h2]
      rfl
    · refine ⟨z, evT_of (k := L.length + 1) (F := l49) (H' := [.cells [.fn p []]]) (e := [.int .i64 z]) (l := [.int .i64 z]) rfl rfl rfl ?_ rfl rfl, by rw [h1]; simp⟩
      show evL T (L.length + 1) q49 _ _ = _
      rw [h0, h2]
      rfl
  obtain ⟨z, h1, h2⟩ := h49
  refine evT_of (k := 0) (F := l41) (H' := [.cells [.fn p []]]) (e := [.bool !(L.all f)]) (l := [.bool !(L.all f)]) rfl rfl rfl ?_ rfl rfl
  simp only [l41, q41, evL_op, evL_sel, evL_nx, evL_exit, evL_ret, evL_join, evL_block, evL_cond, evK_some, evJ_nx, evJ_rt, evJ_ex, evB_nx, evB_rt, evB_ex, evC2_bool, evS_and, evS_or, evS_tf, evS_ft, ev_t, ev_s, ev_c, evalOp, bin_add, bin_sub, bin_mul, bin_eql, bin_neq, bin_lss, bin_leq, bin_gtr, bin_geq, sbin_eql, sbin_neq, b8, List.map_cons, List.map_nil, PV.rens, PV.ren, if_true, if_false, Bool.false_eq_true, reduceIte, h1, h2]
theorem T42 (s : List UInt8) (hs : s.length < 4294967281) : T 42 [.str s, .str [46]] [] = some (.sl .no 1 (splitBy 46 s).length ((splitBy 46 s).map PV.str), []) :=
  evT_ov (φ := ovSplit) rfl (by show (if s.length < 4294967281 then _ else none) = _; rw [if_pos hs])
theorem splitBy_le (c : UInt8) : ∀ (s x : List UInt8), x ∈ splitBy c s → x.length ≤ s.length
  | [], x, h => by simp [splitBy] at h; subst h; simp
  | b :: l, x, h => by
    unfold splitBy at h
    split at h
    · rcases List.mem_cons.1 h with rfl | h
      · simp
      · have := splitBy_le c l x h; simp; omega
    · split at h
      · simp at h; subst h; simp
      · rename_i y r hy
        rcases List.mem_cons.1 h with rfl | h
        · have := splitBy_le c l y (by rw [hy]; simp); simp; omega
        · have := splitBy_le c l x (by rw [hy]; simp [h]); simp; omega
theorem splitBy_len (c : UInt8) : ∀ s : List UInt8, (splitBy c s).length ≤ s.length + 1
  | [] => by simp [splitBy]
  | b :: l => by
    have := splitBy_len c l
    unfold splitBy
    split
    · simp; omega
    · split
      · simp
      · rename_i y r hy
        rw [hy] at this
        simp at this ⊢; omega
def parts (s : List UInt8) (m : Int) (f : List UInt8 → Bool) : Bool := decide ((s.length : Int) ≤ m) && (splitBy 46 s).all f
theorem T31 (p : Nat) (s : List UInt8) (m : Int) (f : List UInt8 → Bool) (hs : s.length < 4294967281) (h : ∀ x : List UInt8, x.length ≤ 9000000000000000000 → T p [.str x] [.cells [.fn p []]] = some (.bool (f x), [.cells [.fn p []]])) :
    T 31 [.str s, .int .i64 m, .fn p []] [] = some (.bool (parts s m f), []) := by
  refine evT_of (k := 0) (F := l31) (H' := [.cells [.fn p []]]) (e := [.bool (parts s m f)]) (l := [.bool (parts s m f)]) rfl rfl rfl ?_ rfl rfl
  have h42 := T42 s hs
  have h41 := T41 p (splitBy 46 s) f (by have := splitBy_len 46 s; omega) (fun x hx => h x (by have := splitBy_le 46 s x hx; omega))
  simp only [l31, q31, evL_op, evL_sel, evL_nx, evL_exit, evL_ret, evL_join, evL_block, evL_cond, evK_some, evJ_nx, evJ_rt, evJ_ex, evB_nx, evB_rt, evB_ex, evC2_bool, evS_and, evS_or, evS_tf, evS_ft, ev_t, ev_s, ev_c, evalOp, bin_add, bin_sub, bin_mul, bin_eql, bin_neq, bin_lss, bin_leq, bin_gtr, bin_geq, sbin_eql, sbin_neq, b8, List.map_cons, List.map_nil, PV.rens, PV.ren, if_true, if_false, Bool.false_eq_true, reduceIte, PV.cells?, PV.one, List.length_nil, List.nil_append, h42, Tk.ren, h41]
  simp only [parts, Bool.not_not]
theorem T14 (s : List UInt8) (hs : s.length < 4294967281) : T 14 [.str s] [] = some (.bool (parts s 255 label), []) := by
  refine evT_of (k := 0) (F := l14) (H' := []) (e := [.bool (parts s 255 label)]) (l := [.bool (parts s 255 label)]) rfl rfl rfl ?_ rfl rfl
  have h31 := T31 33 s 255 label hs (fun x hx => T33 (quiet_fn 33) x hx)
  simp only [l14, q14, evL_op, evL_sel, evL_nx, evL_exit, evL_ret, evL_join, evL_block, evL_cond, evK_some, evJ_nx, evJ_rt, evJ_ex, evB_nx, evB_rt, evB_ex, evC2_bool, evS_and, evS_or, evS_tf, evS_ft, ev_t, ev_s, ev_c, evalOp, bin_add, bin_sub, bin_mul, bin_eql, bin_neq, bin_lss, bin_leq, bin_gtr, bin_geq, sbin_eql, sbin_neq, b8, List.map_cons, List.map_nil, PV.rens, PV.ren, if_true, if_false, Bool.false_eq_true, reduceIte, h31]
/-- Is it a Path? -/
def pathOk (nul : Bool) (l d : List UInt8) : Bool := nul && decide (l ++ d = []) || (!nul && parts l 64 atom && parts d 255 label)
theorem T13 (nul : Bool) (l d : List UInt8) (hl : l.length + d.length < 4294967281) : T 13 [.agg [.bool nul, .str l, .str d]] [] = some (.int .i64 (if pathOk nul l d = true then 0 else 5), []) := by
  have h31 := T31 32 l 64 atom (by omega) (fun x hx => T32 (quiet_fn 32) x hx)
  have h14 := T14 d (by omega)
  refine evT_of (k := 0) (F := l13) (H' := [.cells [.bool nul, .str l, .str d]]) (e := [.int .i64 (if pathOk nul l d = true then 0 else 5)]) (l := [.int .i64 (if pathOk nul l d = true then 0 else 5)]) rfl rfl rfl ?_ rfl rfl
  have hadd := sbin_add (s := l) (u := d) (by omega)
  simp only [l13, q13, evL_op, evL_sel, evL_nx, evL_exit, evL_ret, evL_join, evL_block, evL_cond, evK_some, evJ_nx, evJ_rt, evJ_ex, evB_nx, evB_rt, evB_ex, evC2_bool, evS_and, evS_or, evS_tf, evS_ft, ev_t, ev_s, ev_c, evalOp, bin_add, bin_sub, bin_mul, bin_eql, bin_neq, bin_lss, bin_leq, bin_gtr, bin_geq, sbin_eql, sbin_neq, b8, List.map_cons, List.map_nil, PV.rens, PV.ren, if_true, if_false, Bool.false_eq_true, reduceIte, PV.cells?, List.all_cons, List.all_nil, PV.one, Bool.and_self, List.length_nil, List.nil_append, List.getElem?_cons_zero, Nat.zero_add, List.drop_zero, List.drop_succ_cons, List.take_succ_cons, List.take_zero, PV.of?, List.length_cons, hadd, h31, h14]
  have : (nul && decide (l ++ d = []) || !nul && parts l 64 atom && parts d 255 label) = pathOk nul l d := rfl
  rw [this]
  cases pathOk nul l d <;> rfl
end Go.Proofs.YtgilfigaimndkaaDoor.Tab
