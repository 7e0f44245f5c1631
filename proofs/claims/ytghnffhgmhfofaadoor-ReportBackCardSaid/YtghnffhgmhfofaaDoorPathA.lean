/- Mailboxes: what the functions of path do. -/
import Derived.Test.YtghnffhgmhfofaaDoorBase
namespace Go.Proofs.YtghnffhgmhfofaaDoor.Tab
set_option linter.all false
open Go Go.RowKit Go.Proofs.YtghnffhgmhfofaaDoor.Ev
def plain (c : UInt8) : Bool := decide ((97 : Int) ≤ c.toNat) && decide ((c.toNat : Int) ≤ 122) || decide ((65 : Int) ≤ c.toNat) && decide ((c.toNat : Int) ≤ 90) || decide ((48 : Int) ≤ c.toNat) && decide ((c.toNat : Int) ≤ 57)
theorem T58 (c : UInt8) : T 58 [.int .u8 c.toNat] [] = some (.bool (plain c), []) := by
  refine evT_of (k := 0) (F := l58) (H' := []) (e := [.bool (plain c)]) (l := [.bool (plain c)]) rfl rfl rfl ?_ rfl rfl
  simp only [l58, q58, evL_op, evL_sel, evL_nx, evL_exit, evL_ret, evL_join, evL_block, evL_cond, evK_some, evJ_nx, evJ_rt, evJ_ex, evB_nx, evB_rt, evB_ex, evC2_bool, evS_and, evS_or, evS_tf, evS_ft, ev_t, ev_s, ev_c, evalOp, bin_add, bin_sub, bin_mul, bin_eql, bin_neq, bin_lss, bin_leq, bin_gtr, bin_geq, sbin_eql, sbin_neq, b8, List.map_cons, List.map_nil, PV.rens, PV.ren, if_true, if_false, Bool.false_eq_true, reduceIte, plain]

def labelC (c : UInt8) : Bool := plain c || c == 45
theorem labelC_eq (c : UInt8) : (!plain c && !decide ((c.toNat : Int) = 45)) = !labelC c := by
  have := byte_ne c 45 (by omega)
  rw [show ((45 : Nat) : Int) = 45 from rfl] at this
  unfold labelC
  rw [this, Bool.not_or]
  rfl
theorem flat3 (s : List UInt8) (n i : Int) : ([PV.str s, .int .i64 n, .int .i64 i]).all flat = true := rfl
section
variable {H : Hp} (hH : Quiet H)
include hH
theorem body37 (k0 : Nat) (s : List UInt8) (n : Int) (i : Nat) (c : UInt8) (hn : (i : Int) < n) (hm : n ≤ 9000000000000000000) (hc : s[i]? = some c) : evL T k0 q37_1 [.str s, .int .i64 n, .int .i64 i] H =
    if labelC c = true then some (.nx, [.str s, .int .i64 n, .int .i64 (i + 1 : Nat)], H) else some (.rt, [.bool false], H) := by
  have hw : IntKind.i64.wrap ((i : Int) + 1) = ((i + 1 : Nat) : Int) := by rw [IntWalk.i64_in _ (by omega)]; rfl
  simp only [q37_1, q37_0, evL_op, evL_sel, evL_nx, evL_exit, evL_ret, evL_join, evL_block, evL_cond, evK_some, evJ_nx, evJ_rt, evJ_ex, evB_nx, evB_rt, evB_ex, evC2_bool, evS_and, evS_or, evS_tf, evS_ft, ev_t, ev_s, ev_c, evalOp, bin_add, bin_sub, bin_mul, bin_eql, bin_neq, bin_lss, bin_leq, bin_gtr, bin_geq, sbin_eql, sbin_neq, b8, List.map_cons, List.map_nil, PV.rens, PV.ren, if_true, if_false, Bool.false_eq_true, reduceIte, hn, decide_true, Int.natCast_nonneg, Int.toNat_natCast, hc, T58]
  rw [labelC_eq]
  cases labelC c with
  | true => simp only [evL_op, evL_sel, evL_nx, evL_exit, evL_ret, evL_join, evL_block, evL_cond, evK_some, evJ_nx, evJ_rt, evJ_ex, evB_nx, evB_rt, evB_ex, evC2_bool, evS_and, evS_or, evS_tf, evS_ft, ev_t, ev_s, ev_c, evalOp, bin_add, bin_sub, bin_mul, bin_eql, bin_neq, bin_lss, bin_leq, bin_gtr, bin_geq, sbin_eql, sbin_neq, b8, List.map_cons, List.map_nil, PV.rens, PV.ren, if_true, if_false, Bool.false_eq_true, reduceIte, Bool.not_true, hw]
  | false => simp only [evL_op, evL_sel, evL_nx, evL_exit, evL_ret, evL_join, evL_block, evL_cond, evK_some, evJ_nx, evJ_rt, evJ_ex, evB_nx, evB_rt, evB_ex, evC2_bool, evS_and, evS_or, evS_tf, evS_ft, ev_t, ev_s, ev_c, evalOp, bin_add, bin_sub, bin_mul, bin_eql, bin_neq, bin_lss, bin_leq, bin_gtr, bin_geq, sbin_eql, sbin_neq, b8, List.map_cons, List.map_nil, PV.rens, PV.ren, if_true, if_false, Bool.false_eq_true, reduceIte, Bool.not_false]
theorem loop37 (k0 : Nat) (s : List UInt8) (hs : s.length ≤ 9000000000000000000) : ∀ (j i : Nat), i + j = s.length → ∀ k, j < k → loopL H.length (evL T k0 q37_1) k [.str s, .int .i64 s.length, .int .i64 i] H =
    if (s.drop i).all labelC = true then some (.ex 0, [.str s], H) else some (.rt, [.bool false], H)
  | j, i, hij, 0, hk => by omega
  | 0, i, hij, k + 1, _ => by
    have h1 : ¬ ((i : Int) < s.length) := by omega
    have h2 : s.drop i = [] := List.drop_of_length_le (by omega)
    have h3 : evL T k0 q37_1 [.str s, .int .i64 s.length, .int .i64 i] H = some (.ex 0, [.str s], H) := by simp only [q37_1, evL_op, evL_sel, evL_nx, evL_exit, evL_ret, evL_join, evL_block, evL_cond, evK_some, evJ_nx, evJ_rt, evJ_ex, evB_nx, evB_rt, evB_ex, evC2_bool, evS_and, evS_or, evS_tf, evS_ft, ev_t, ev_s, ev_c, evalOp, bin_add, bin_sub, bin_mul, bin_eql, bin_neq, bin_lss, bin_leq, bin_gtr, bin_geq, sbin_eql, sbin_neq, b8, List.map_cons, List.map_nil, PV.rens, PV.ren, if_true, if_false, Bool.false_eq_true, reduceIte, h1, decide_false]
    rw [loopL_succ, hH.head (flat3 _ _ _), h3, h2]
    rfl
  | j + 1, i, hij, k + 1, hk => by
    have hi : i < s.length := by omega
    rw [loopL_succ, hH.head (flat3 _ _ _), body37 hH k0 s s.length i s[i] (by omega) (by omega) (List.getElem?_eq_getElem hi), List.drop_eq_getElem_cons hi, List.all_cons]
    cases labelC s[i] with
    | true => simp only [if_true, Bool.true_and]; exact loop37 k0 s hs j (i + 1) (by omega) k (by omega)
    | false => simp only [Bool.false_eq_true, if_false, Bool.false_and]
def label (s : List UInt8) : Bool := s.all labelC && !decide (s = []) && decide ((s.length : Int) ≤ 63) && !(s.head? == some 45) && !(s.getLast? == some 45)
theorem T37 (s : List UInt8) (hs : s.length ≤ 9000000000000000000) : T 37 [.str s] H = some (.bool (label s), H) := by
  refine evT_of (k := s.length + 1) (F := l37) (H' := H) (e := [.bool (label s)]) (l := [.bool (label s)]) rfl rfl rfl ?_ rfl (hH.fin rfl)
  have hl := loop37 hH (s.length + 1) s hs s.length 0 (by omega) (s.length + 1) (by omega)
  have h0 : evL T (s.length + 1) q37 [.str s] H = evJ T (s.length + 1) q37_2 (evB 0 (loopL H.length (evL T (s.length + 1) q37_1) (s.length + 1) [.str s, .int .i64 s.length, .int .i64 (0 : Nat)] H)) := rfl
  show evL T (s.length + 1) q37 [.str s] H = _
  rw [h0, hl, List.drop_zero]
  unfold label
  cases s.all labelC with
  | false => simp only [evL_op, evL_sel, evL_nx, evL_exit, evL_ret, evL_join, evL_block, evL_cond, evK_some, evJ_nx, evJ_rt, evJ_ex, evB_nx, evB_rt, evB_ex, evC2_bool, evS_and, evS_or, evS_tf, evS_ft, ev_t, ev_s, ev_c, evalOp, bin_add, bin_sub, bin_mul, bin_eql, bin_neq, bin_lss, bin_leq, bin_gtr, bin_geq, sbin_eql, sbin_neq, b8, List.map_cons, List.map_nil, PV.rens, PV.ren, if_true, if_false, Bool.false_eq_true, reduceIte, Bool.false_and]
  | true =>
    simp only [evL_op, evL_sel, evL_nx, evL_exit, evL_ret, evL_join, evL_block, evL_cond, evK_some, evJ_nx, evJ_rt, evJ_ex, evB_nx, evB_rt, evB_ex, evC2_bool, evS_and, evS_or, evS_tf, evS_ft, ev_t, ev_s, ev_c, evalOp, bin_add, bin_sub, bin_mul, bin_eql, bin_neq, bin_lss, bin_leq, bin_gtr, bin_geq, sbin_eql, sbin_neq, b8, List.map_cons, List.map_nil, PV.rens, PV.ren, if_true, if_false, Bool.false_eq_true, reduceIte, Bool.true_and]
    cases s with
    | nil => simp only [q37_2, evL_op, evL_sel, evL_nx, evL_exit, evL_ret, evL_join, evL_block, evL_cond, evK_some, evJ_nx, evJ_rt, evJ_ex, evB_nx, evB_rt, evB_ex, evC2_bool, evS_and, evS_or, evS_tf, evS_ft, ev_t, ev_s, ev_c, evalOp, bin_add, bin_sub, bin_mul, bin_eql, bin_neq, bin_lss, bin_leq, bin_gtr, bin_geq, sbin_eql, sbin_neq, b8, List.map_cons, List.map_nil, PV.rens, PV.ren, if_true, if_false, Bool.false_eq_true, reduceIte, decide_true, Bool.not_true, Bool.false_and]
    | cons a r =>
      have hidx : (a :: r)[Int.toNat 0]? = some a := rfl
      have h1 : (!decide ((a.toNat : Int) = 45)) = !(a == 45) := byte_ne a 45 (by omega)
      obtain ⟨z, hz⟩ : ∃ z, (a :: r).getLast? = some z := ⟨_, List.getLast?_eq_some_getLast (by simp)⟩
      have hz' : (a :: r)[(a :: r).length - 1]? = some z := by rw [← List.getLast?_eq_getElem?]; exact hz
      have h2 : (!decide ((z.toNat : Int) = 45)) = !(z == 45) := byte_ne z 45 (by omega)
      have hw : IntKind.i64.wrap (((a :: r).length : Int) - 1) = (((a :: r).length - 1 : Nat) : Int) := by
        rw [IntWalk.i64_in _ (by simp only [List.length_cons] at hs ⊢; omega)]; simp only [List.length_cons]; omega
      simp only [q37_2, evL_op, evL_sel, evL_nx, evL_exit, evL_ret, evL_join, evL_block, evL_cond, evK_some, evJ_nx, evJ_rt, evJ_ex, evB_nx, evB_rt, evB_ex, evC2_bool, evS_and, evS_or, evS_tf, evS_ft, ev_t, ev_s, ev_c, evalOp, bin_add, bin_sub, bin_mul, bin_eql, bin_neq, bin_lss, bin_leq, bin_gtr, bin_geq, sbin_eql, sbin_neq, b8, List.map_cons, List.map_nil, PV.rens, PV.ren, if_true, if_false, Bool.false_eq_true, reduceIte, decide_false, Bool.not_false, Int.le_refl, hidx, hw, Int.natCast_nonneg, Int.toNat_natCast, hz', h1, h2, reduceCtorEq, List.head?_cons, hz, Option.some_beq_some, Bool.true_and]

/-! ### atom -/
end
def signs : List UInt8 := [33, 35, 36, 37, 38, 39, 42, 43, 45, 47, 61, 63, 94, 95, 96, 123, 124, 125, 126]
def atomC (c : UInt8) : Bool := plain c || signs.contains c
theorem T67 (s : List UInt8) (c : UInt8) : T 67 [.str s, .int .u8 c.toNat] [] = some (.int .i64 (idxB s c), []) := by
  refine evT_ov (φ := ovIB) rfl ?_
  show some (PV.int .i64 (idxB s (c.toNat : Int).toNat.toUInt8), ([] : Hp)) = _
  rw [byte_back]
section
variable {H : Hp} (hH : Quiet H)
include hH
theorem body54 (k0 : Nat) (s : List UInt8) (n : Int) (i : Nat) (c : UInt8) (hn : (i : Int) < n) (hm : n ≤ 9000000000000000000) (hc : s[i]? = some c) : evL T k0 q54_1 [.str s, .int .i64 n, .int .i64 i] H =
    if atomC c = true then some (.nx, [.str s, .int .i64 n, .int .i64 (i + 1 : Nat)], H) else some (.rt, [.bool false], H) := by
  have hw : IntKind.i64.wrap ((i : Int) + 1) = ((i + 1 : Nat) : Int) := by rw [IntWalk.i64_in _ (by omega)]; rfl
  have h45 := T67 signs c
  unfold signs at h45
  simp only [q54_1, q54_0, evL_op, evL_sel, evL_nx, evL_exit, evL_ret, evL_join, evL_block, evL_cond, evK_some, evJ_nx, evJ_rt, evJ_ex, evB_nx, evB_rt, evB_ex, evC2_bool, evS_and, evS_or, evS_tf, evS_ft, ev_t, ev_s, ev_c, evalOp, bin_add, bin_sub, bin_mul, bin_eql, bin_neq, bin_lss, bin_leq, bin_gtr, bin_geq, sbin_eql, sbin_neq, b8, List.map_cons, List.map_nil, PV.rens, PV.ren, if_true, if_false, Bool.false_eq_true, reduceIte, hn, decide_true, Int.natCast_nonneg, Int.toNat_natCast, hc, T58, h45, idxB_neg]
  have : (!plain c && !(List.contains [33, 35, 36, 37, 38, 39, 42, 43, 45, 47, 61, 63, 94, 95, 96, 123, 124, 125, 126] c)) = !atomC c := by
    unfold atomC signs; rw [Bool.not_or]
  rw [this]
  cases atomC c with
  | true => simp only [evL_op, evL_sel, evL_nx, evL_exit, evL_ret, evL_join, evL_block, evL_cond, evK_some, evJ_nx, evJ_rt, evJ_ex, evB_nx, evB_rt, evB_ex, evC2_bool, evS_and, evS_or, evS_tf, evS_ft, ev_t, ev_s, ev_c, evalOp, bin_add, bin_sub, bin_mul, bin_eql, bin_neq, bin_lss, bin_leq, bin_gtr, bin_geq, sbin_eql, sbin_neq, b8, List.map_cons, List.map_nil, PV.rens, PV.ren, if_true, if_false, Bool.false_eq_true, reduceIte, Bool.not_true, hw]
  | false => simp only [evL_op, evL_sel, evL_nx, evL_exit, evL_ret, evL_join, evL_block, evL_cond, evK_some, evJ_nx, evJ_rt, evJ_ex, evB_nx, evB_rt, evB_ex, evC2_bool, evS_and, evS_or, evS_tf, evS_ft, ev_t, ev_s, ev_c, evalOp, bin_add, bin_sub, bin_mul, bin_eql, bin_neq, bin_lss, bin_leq, bin_gtr, bin_geq, sbin_eql, sbin_neq, b8, List.map_cons, List.map_nil, PV.rens, PV.ren, if_true, if_false, Bool.false_eq_true, reduceIte, Bool.not_false]
theorem loop54 (k0 : Nat) (s : List UInt8) (hs : s.length ≤ 9000000000000000000) : ∀ (j i : Nat), i + j = s.length → ∀ k, j < k → loopL H.length (evL T k0 q54_1) k [.str s, .int .i64 s.length, .int .i64 i] H =
    if (s.drop i).all atomC = true then some (.ex 0, [.str s], H) else some (.rt, [.bool false], H)
  | j, i, hij, 0, hk => by omega
  | 0, i, hij, k + 1, _ => by
    have h1 : ¬ ((i : Int) < s.length) := by omega
    have h2 : s.drop i = [] := List.drop_of_length_le (by omega)
    have h3 : evL T k0 q54_1 [.str s, .int .i64 s.length, .int .i64 i] H = some (.ex 0, [.str s], H) := by simp only [q54_1, evL_op, evL_sel, evL_nx, evL_exit, evL_ret, evL_join, evL_block, evL_cond, evK_some, evJ_nx, evJ_rt, evJ_ex, evB_nx, evB_rt, evB_ex, evC2_bool, evS_and, evS_or, evS_tf, evS_ft, ev_t, ev_s, ev_c, evalOp, bin_add, bin_sub, bin_mul, bin_eql, bin_neq, bin_lss, bin_leq, bin_gtr, bin_geq, sbin_eql, sbin_neq, b8, List.map_cons, List.map_nil, PV.rens, PV.ren, if_true, if_false, Bool.false_eq_true, reduceIte, h1, decide_false]
    rw [loopL_succ, hH.head (flat3 _ _ _), h3, h2]
    rfl
  | j + 1, i, hij, k + 1, hk => by
    have hi : i < s.length := by omega
    rw [loopL_succ, hH.head (flat3 _ _ _), body54 hH k0 s s.length i s[i] (by omega) (by omega) (List.getElem?_eq_getElem hi), List.drop_eq_getElem_cons hi, List.all_cons]
    cases atomC s[i] with
    | true => simp only [if_true, Bool.true_and]; exact loop54 k0 s hs j (i + 1) (by omega) k (by omega)
    | false => simp only [Bool.false_eq_true, if_false, Bool.false_and]
def atom (s : List UInt8) : Bool := s.all atomC && !decide (s = [])
theorem T54 (s : List UInt8) (hs : s.length ≤ 9000000000000000000) : T 54 [.str s] H = some (.bool (atom s), H) := by
  refine evT_of (k := s.length + 1) (F := l54) (H' := H) (e := [.bool (atom s)]) (l := [.bool (atom s)]) rfl rfl rfl ?_ rfl (hH.fin rfl)
  have hl := loop54 hH (s.length + 1) s hs s.length 0 (by omega) (s.length + 1) (by omega)
  have h0 : evL T (s.length + 1) q54 [.str s] H = evJ T (s.length + 1) q54_2 (evB 0 (loopL H.length (evL T (s.length + 1) q54_1) (s.length + 1) [.str s, .int .i64 s.length, .int .i64 (0 : Nat)] H)) := rfl
  show evL T (s.length + 1) q54 [.str s] H = _
  rw [h0, hl, List.drop_zero]
  unfold atom
  cases s.all atomC with
  | false => simp only [evL_op, evL_sel, evL_nx, evL_exit, evL_ret, evL_join, evL_block, evL_cond, evK_some, evJ_nx, evJ_rt, evJ_ex, evB_nx, evB_rt, evB_ex, evC2_bool, evS_and, evS_or, evS_tf, evS_ft, ev_t, ev_s, ev_c, evalOp, bin_add, bin_sub, bin_mul, bin_eql, bin_neq, bin_lss, bin_leq, bin_gtr, bin_geq, sbin_eql, sbin_neq, b8, List.map_cons, List.map_nil, PV.rens, PV.ren, if_true, if_false, Bool.false_eq_true, reduceIte, Bool.false_and]
  | true => simp only [q54_2, evL_op, evL_sel, evL_nx, evL_exit, evL_ret, evL_join, evL_block, evL_cond, evK_some, evJ_nx, evJ_rt, evJ_ex, evB_nx, evB_rt, evB_ex, evC2_bool, evS_and, evS_or, evS_tf, evS_ft, ev_t, ev_s, ev_c, evalOp, bin_add, bin_sub, bin_mul, bin_eql, bin_neq, bin_lss, bin_leq, bin_gtr, bin_geq, sbin_eql, sbin_neq, b8, List.map_cons, List.map_nil, PV.rens, PV.ren, if_true, if_false, Bool.false_eq_true, reduceIte, Bool.true_and]
end

/-! ### parts -/
theorem T57 (p : Nat) (s : List UInt8) (b : Bool) (h : T p [.str s] [.cells [.fn p []]] = some (.bool b, [.cells [.fn p []]])) : T 57 [.str s, .ptr 0 0] [.cells [.fn p []]] = some (.bool !b, [.cells [.fn p []]]) := by
  refine evT_of (k := 0) (F := l57) (H' := [.cells [.fn p []]]) (e := [.bool !b]) (l := [.bool !b]) rfl rfl rfl ?_ rfl rfl
  simp only [l57, q57, evL_op, evL_sel, evL_nx, evL_exit, evL_ret, evL_join, evL_block, evL_cond, evK_some, evJ_nx, evJ_rt, evJ_ex, evB_nx, evB_rt, evB_ex, evC2_bool, evS_and, evS_or, evS_tf, evS_ft, ev_t, ev_s, ev_c, evalOp, bin_add, bin_sub, bin_mul, bin_eql, bin_neq, bin_lss, bin_leq, bin_gtr, bin_geq, sbin_eql, sbin_neq, b8, List.map_cons, List.map_nil, PV.rens, PV.ren, if_true, if_false, Bool.false_eq_true, reduceIte, List.getElem?_cons_zero, List.drop_zero, List.take_succ_cons, List.take_zero, PV.of?, List.length_cons, List.length_nil, List.append_nil, List.cons_append, List.nil_append, h]
theorem head68 (p : Nat) (n m i : Int) (l : Nat) (cs : List PV) : headS 1 [.sl .no 1 l cs, .fn 57 [.ptr 0 0], .int .i64 n, .int .i64 i] [.cells [.fn p []]] = ([.sl .no 1 l cs, .fn 57 [.ptr 0 0], .int .i64 n, .int .i64 i], [.cells [.fn p []]]) := rfl
theorem take1 {L : List (List UInt8)} {i : Nat} {s : List UInt8} (h : L[i]? = some s) : ((L.map PV.str).drop (i * 1)).take 1 = [PV.str s] := by
  have hi : i < L.length := (List.getElem?_eq_some_iff.1 h).1
  have e : L[i] = s := (List.getElem?_eq_some_iff.1 h).2
  rw [Nat.mul_one, ← List.map_drop, List.drop_eq_getElem_cons hi, List.map_cons, e]
  rfl
theorem body68 (k0 p : Nat) (L : List (List UInt8)) (n : Int) (i : Nat) (s : List UInt8) (b : Bool) (hs : L[i]? = some s) (hn : n = L.length) (hm : n ≤ 9000000000000000000) (h : T p [.str s] [.cells [.fn p []]] = some (.bool b, [.cells [.fn p []]])) :
    evL T k0 q68_1 [.sl .no 1 L.length (L.map PV.str), .fn 57 [.ptr 0 0], .int .i64 n, .int .i64 i] [.cells [.fn p []]] =
    if b = true then some (.nx, [.sl .no 1 L.length (L.map PV.str), .fn 57 [.ptr 0 0], .int .i64 n, .int .i64 (i + 1 : Nat)], [.cells [.fn p []]]) else some (.rt, [.int .i64 i], [.cells [.fn p []]]) := by
  have hi : i < L.length := (List.getElem?_eq_some_iff.1 hs).1
  have hw : IntKind.i64.wrap ((i : Int) + 1) = ((i + 1 : Nat) : Int) := by rw [IntWalk.i64_in _ (by omega)]; rfl
  have h1 : (i : Int) < L.length := by omega
  have h43 := T57 p s b h
  subst hn
  simp only [q68_1, q68_0, evL_op, evL_sel, evL_nx, evL_exit, evL_ret, evL_join, evL_block, evL_cond, evK_some, evJ_nx, evJ_rt, evJ_ex, evB_nx, evB_rt, evB_ex, evC2_bool, evS_and, evS_or, evS_tf, evS_ft, ev_t, ev_s, ev_c, evalOp, bin_add, bin_sub, bin_mul, bin_eql, bin_neq, bin_lss, bin_leq, bin_gtr, bin_geq, sbin_eql, sbin_neq, b8, List.map_cons, List.map_nil, PV.rens, PV.ren, if_true, if_false, Bool.false_eq_true, reduceIte, h1, decide_true, Int.natCast_nonneg, Int.toNat_natCast, take1 hs, and_self, PV.of?, List.drop_zero, List.take_succ_cons, List.take_zero, List.length_cons, List.length_nil, List.cons_append, List.nil_append, h43]
  cases b with
  | true => simp only [evL_op, evL_sel, evL_nx, evL_exit, evL_ret, evL_join, evL_block, evL_cond, evK_some, evJ_nx, evJ_rt, evJ_ex, evB_nx, evB_rt, evB_ex, evC2_bool, evS_and, evS_or, evS_tf, evS_ft, ev_t, ev_s, ev_c, evalOp, bin_add, bin_sub, bin_mul, bin_eql, bin_neq, bin_lss, bin_leq, bin_gtr, bin_geq, sbin_eql, sbin_neq, b8, List.map_cons, List.map_nil, PV.rens, PV.ren, if_true, if_false, Bool.false_eq_true, reduceIte, Bool.not_true, hw]
  | false => simp only [evL_op, evL_sel, evL_nx, evL_exit, evL_ret, evL_join, evL_block, evL_cond, evK_some, evJ_nx, evJ_rt, evJ_ex, evB_nx, evB_rt, evB_ex, evC2_bool, evS_and, evS_or, evS_tf, evS_ft, ev_t, ev_s, ev_c, evalOp, bin_add, bin_sub, bin_mul, bin_eql, bin_neq, bin_lss, bin_leq, bin_gtr, bin_geq, sbin_eql, sbin_neq, b8, List.map_cons, List.map_nil, PV.rens, PV.ren, if_true, if_false, Bool.false_eq_true, reduceIte, Bool.not_false]
theorem loop68 (k0 p : Nat) (L : List (List UInt8)) (f : List UInt8 → Bool) (hl : L.length ≤ 9000000000000000000) (h : ∀ s ∈ L, T p [.str s] [.cells [.fn p []]] = some (.bool (f s), [.cells [.fn p []]])) : ∀ (j i : Nat), i + j = L.length → ∀ k, j < k →
    ((L.drop i).all f = true ∧ loopL 1 (evL T k0 q68_1) k [.sl .no 1 L.length (L.map PV.str), .fn 57 [.ptr 0 0], .int .i64 L.length, .int .i64 i] [.cells [.fn p []]] = some (.ex 0, [], [.cells [.fn p []]])) ∨
    ((L.drop i).all f = false ∧ ∃ z : Nat, loopL 1 (evL T k0 q68_1) k [.sl .no 1 L.length (L.map PV.str), .fn 57 [.ptr 0 0], .int .i64 L.length, .int .i64 i] [.cells [.fn p []]] = some (.rt, [.int .i64 z], [.cells [.fn p []]]))
  | j, i, hij, 0, hk => by omega
  | 0, i, hij, k + 1, _ => by
    have h1 : ¬ ((i : Int) < L.length) := by omega
    have h2 : L.drop i = [] := List.drop_of_length_le (by omega)
    have h3 : evL T k0 q68_1 [.sl .no 1 L.length (L.map PV.str), .fn 57 [.ptr 0 0], .int .i64 L.length, .int .i64 i] [.cells [.fn p []]] = some (.ex 0, [], [.cells [.fn p []]]) := by simp only [q68_1, evL_op, evL_sel, evL_nx, evL_exit, evL_ret, evL_join, evL_block, evL_cond, evK_some, evJ_nx, evJ_rt, evJ_ex, evB_nx, evB_rt, evB_ex, evC2_bool, evS_and, evS_or, evS_tf, evS_ft, ev_t, ev_s, ev_c, evalOp, bin_add, bin_sub, bin_mul, bin_eql, bin_neq, bin_lss, bin_leq, bin_gtr, bin_geq, sbin_eql, sbin_neq, b8, List.map_cons, List.map_nil, PV.rens, PV.ren, if_true, if_false, Bool.false_eq_true, reduceIte, h1, decide_false]
    refine .inl ⟨by rw [h2]; rfl, ?_⟩
    rw [loopL_succ, head68 p _ 0, h3]
  | j + 1, i, hij, k + 1, hk => by
    have hi : i < L.length := by omega
    have hb := body68 k0 p L L.length i L[i] (f L[i]) (List.getElem?_eq_getElem hi) rfl (by omega) (h _ (List.getElem_mem hi))
    rw [loopL_succ, head68 p _ 0, hb, List.drop_eq_getElem_cons hi, List.all_cons]
    cases f L[i] with
    | true => simp only [if_true, Bool.true_and]; exact loop68 k0 p L f hl h j (i + 1) (by omega) k (by omega)
    | false => exact .inr ⟨by simp, i, by simp only [Bool.false_eq_true, if_false]⟩
theorem T55 (p : Nat) (L : List (List UInt8)) (f : List UInt8 → Bool) (hl : L.length ≤ 9000000000000000000) (h : ∀ s ∈ L, T p [.str s] [.cells [.fn p []]] = some (.bool (f s), [.cells [.fn p []]])) :
    T 55 [.sl .no 1 L.length (L.map PV.str), .fn 57 [.ptr 0 0]] [.cells [.fn p []]] = some (.bool !(L.all f), [.cells [.fn p []]]) := by
  have h49 : ∃ z : Int, T 68 [.sl .no 1 L.length (L.map PV.str), .fn 57 [.ptr 0 0]] [.cells [.fn p []]] = some (.int .i64 z, [.cells [.fn p []]]) ∧ decide (0 ≤ z) = !(L.all f) := by
    have hlp := loop68 (L.length + 1) p L f hl h L.length 0 (by omega) (L.length + 1) (by omega)
    rw [List.drop_zero] at hlp
    have h0 : evL T (L.length + 1) q68 [.sl .no 1 L.length (L.map PV.str), .fn 57 [.ptr 0 0]] [.cells [.fn p []]] = evJ T (L.length + 1) q68_2 (evB 0 (loopL 1 (evL T (L.length + 1) q68_1) (L.length + 1) [.sl .no 1 L.length (L.map PV.str), .fn 57 [.ptr 0 0], .int .i64 L.length, .int .i64 (0 : Nat)] [.cells [.fn p []]])) := rfl
    rcases hlp with ⟨h1, h2⟩ | ⟨h1, z, h2⟩
    · refine ⟨-1, evT_of (k := L.length + 1) (F := l68) (H' := [.cells [.fn p []]]) (e := [.int .i64 (-1)]) (l := [.int .i64 (-1)]) rfl rfl rfl ?_ rfl rfl, by rw [h1]; rfl⟩
      show evL T (L.length + 1) q68 _ _ = _
      rw [h0, h2]
      rfl
    · refine ⟨z, evT_of (k := L.length + 1) (F := l68) (H' := [.cells [.fn p []]]) (e := [.int .i64 z]) (l := [.int .i64 z]) rfl rfl rfl ?_ rfl rfl, by rw [h1]; simp⟩
      show evL T (L.length + 1) q68 _ _ = _
      rw [h0, h2]
      rfl
  obtain ⟨z, h1, h2⟩ := h49
  refine evT_of (k := 0) (F := l55) (H' := [.cells [.fn p []]]) (e := [.bool !(L.all f)]) (l := [.bool !(L.all f)]) rfl rfl rfl ?_ rfl rfl
  simp only [l55, q55, evL_op, evL_sel, evL_nx, evL_exit, evL_ret, evL_join, evL_block, evL_cond, evK_some, evJ_nx, evJ_rt, evJ_ex, evB_nx, evB_rt, evB_ex, evC2_bool, evS_and, evS_or, evS_tf, evS_ft, ev_t, ev_s, ev_c, evalOp, bin_add, bin_sub, bin_mul, bin_eql, bin_neq, bin_lss, bin_leq, bin_gtr, bin_geq, sbin_eql, sbin_neq, b8, List.map_cons, List.map_nil, PV.rens, PV.ren, if_true, if_false, Bool.false_eq_true, reduceIte, h1, h2]
theorem T56 (s : List UInt8) (hs : s.length < 4294967281) : T 56 [.str s, .str [46]] [] = some (.sl .no 1 (splitBy 46 s).length ((splitBy 46 s).map PV.str), []) :=
  evT_ov (φ := ovSplit) rfl (by show (if s.length < 4294967281 then _ else none) = _; rw [if_pos hs])
theorem splitBy_le (c : UInt8) : ∀ (s x : List UInt8), x ∈ splitBy c s → x.length ≤ s.length
  | [], x, h => by simp [splitBy] at h; subst h; simp
  | b :: l, x, h => by
    unfold splitBy at h
    split at h
    · rcases List.mem_cons.1 h with rfl | h
      · simp
      · have := splitBy_le c l x h; simp; omega
    · split at h
      · simp at h; subst h; simp
      · rename_i y r hy
        rcases List.mem_cons.1 h with rfl | h
        · have := splitBy_le c l y (by rw [hy]; simp); simp; omega
        · have := splitBy_le c l x (by rw [hy]; simp [h]); simp; omega
theorem splitBy_len (c : UInt8) : ∀ s : List UInt8, (splitBy c s).length ≤ s.length + 1
  | [] => by simp [splitBy]
  | b :: l => by
    have := splitBy_len c l
    unfold splitBy
    split
    · simp; omega
    · split
      · simp
      · rename_i y r hy
        rw [hy] at this
        simp at this ⊢; omega
def parts (s : List UInt8) (m : Int) (f : List UInt8 → Bool) : Bool := decide ((s.length : Int) ≤ m) && (splitBy 46 s).all f
theorem T36 (p : Nat) (s : List UInt8) (m : Int) (f : List UInt8 → Bool) (hs : s.length < 4294967281) (h : ∀ x : List UInt8, x.length ≤ 9000000000000000000 → T p [.str x] [.cells [.fn p []]] = some (.bool (f x), [.cells [.fn p []]])) :
    T 36 [.str s, .int .i64 m, .fn p []] [] = some (.bool (parts s m f), []) := by
  refine evT_of (k := 0) (F := l36) (H' := [.cells [.fn p []]]) (e := [.bool (parts s m f)]) (l := [.bool (parts s m f)]) rfl rfl rfl ?_ rfl rfl
  have h42 := T56 s hs
  have h41 := T55 p (splitBy 46 s) f (by have := splitBy_len 46 s; omega) (fun x hx => h x (by have := splitBy_le 46 s x hx; omega))
  simp only [l36, q36, evL_op, evL_sel, evL_nx, evL_exit, evL_ret, evL_join, evL_block, evL_cond, evK_some, evJ_nx, evJ_rt, evJ_ex, evB_nx, evB_rt, evB_ex, evC2_bool, evS_and, evS_or, evS_tf, evS_ft, ev_t, ev_s, ev_c, evalOp, bin_add, bin_sub, bin_mul, bin_eql, bin_neq, bin_lss, bin_leq, bin_gtr, bin_geq, sbin_eql, sbin_neq, b8, List.map_cons, List.map_nil, PV.rens, PV.ren, if_true, if_false, Bool.false_eq_true, reduceIte, PV.cells?, PV.one, List.length_nil, List.nil_append, h42, Tk.ren, h41]
  simp only [parts, Bool.not_not]
theorem T19 (s : List UInt8) (hs : s.length < 4294967281) : T 19 [.str s] [] = some (.bool (parts s 255 label), []) := by
  refine evT_of (k := 0) (F := l19) (H' := []) (e := [.bool (parts s 255 label)]) (l := [.bool (parts s 255 label)]) rfl rfl rfl ?_ rfl rfl
  have h31 := T36 37 s 255 label hs (fun x hx => T37 (quiet_fn 37) x hx)
  simp only [l19, q19, evL_op, evL_sel, evL_nx, evL_exit, evL_ret, evL_join, evL_block, evL_cond, evK_some, evJ_nx, evJ_rt, evJ_ex, evB_nx, evB_rt, evB_ex, evC2_bool, evS_and, evS_or, evS_tf, evS_ft, ev_t, ev_s, ev_c, evalOp, bin_add, bin_sub, bin_mul, bin_eql, bin_neq, bin_lss, bin_leq, bin_gtr, bin_geq, sbin_eql, sbin_neq, b8, List.map_cons, List.map_nil, PV.rens, PV.ren, if_true, if_false, Bool.false_eq_true, reduceIte, h31]
/-- Is it a Path? -/
def pathOk (nul : Bool) (l d : List UInt8) : Bool := nul && decide (l ++ d = []) || (!nul && parts l 64 atom && parts d 255 label)
theorem T35 (nul : Bool) (l d : List UInt8) (hl : l.length + d.length < 4294967281) : T 35 [.agg [.bool nul, .str l, .str d]] [] = some (.int .i64 (if pathOk nul l d = true then 0 else 5), []) := by
  have h31 := T36 54 l 64 atom (by omega) (fun x hx => T54 (quiet_fn 54) x hx)
  have h14 := T19 d (by omega)
  refine evT_of (k := 0) (F := l35) (H' := [.cells [.bool nul, .str l, .str d]]) (e := [.int .i64 (if pathOk nul l d = true then 0 else 5)]) (l := [.int .i64 (if pathOk nul l d = true then 0 else 5)]) rfl rfl rfl ?_ rfl rfl
  have hadd := sbin_add (s := l) (u := d) (by omega)
  simp only [l35, q35, evL_op, evL_sel, evL_nx, evL_exit, evL_ret, evL_join, evL_block, evL_cond, evK_some, evJ_nx, evJ_rt, evJ_ex, evB_nx, evB_rt, evB_ex, evC2_bool, evS_and, evS_or, evS_tf, evS_ft, ev_t, ev_s, ev_c, evalOp, bin_add, bin_sub, bin_mul, bin_eql, bin_neq, bin_lss, bin_leq, bin_gtr, bin_geq, sbin_eql, sbin_neq, b8, List.map_cons, List.map_nil, PV.rens, PV.ren, if_true, if_false, Bool.false_eq_true, reduceIte, PV.cells?, List.all_cons, List.all_nil, PV.one, Bool.and_self, List.length_nil, List.nil_append, List.getElem?_cons_zero, Nat.zero_add, List.drop_zero, List.drop_succ_cons, List.take_succ_cons, List.take_zero, PV.of?, List.length_cons, hadd, h31, h14]
  have : (nul && decide (l ++ d = []) || !nul && parts l 64 atom && parts d 255 label) = pathOk nul l d := rfl
  rw [this]
  cases pathOk nul l d <;> rfl
abbrev D (s : List UInt8) : Bool := parts s 255 label
theorem split_ne (s : List UInt8) : splitBy 46 s ≠ [] := by
  cases s with
  | nil => simp [splitBy]
  | cons b l =>
    unfold splitBy
    split
    · simp
    · split <;> simp
theorem split_dot (b : List UInt8) : ∀ a : List UInt8, splitBy 46 (a ++ 46 :: b) = splitBy 46 a ++ splitBy 46 b
  | [] => by show splitBy 46 (46 :: b) = _; conv => lhs; unfold splitBy
             rw [if_pos rfl]; rfl
  | x :: a => by
    have ih := split_dot b a
    show splitBy 46 (x :: (a ++ 46 :: b)) = _
    conv => lhs; unfold splitBy
    conv => rhs; arg 1; unfold splitBy
    rw [ih]
    split
    · rfl
    · cases h : splitBy 46 a with
      | nil => exact absurd h (split_ne a)
      | cons y r => rfl
theorem split_cons (c : UInt8) (hc : c ≠ 46) (a : List UInt8) : ∃ y r, splitBy 46 a = y :: r ∧ splitBy 46 (c :: a) = (c :: y) :: r := by
  cases h : splitBy 46 a with
  | nil => exact absurd h (split_ne a)
  | cons y r => exact ⟨y, r, rfl, by unfold splitBy; rw [if_neg hc, h]⟩
theorem split_snoc (c : UInt8) (hc : c ≠ 46) : ∀ a : List UInt8, ∃ y, (y ++ [c]) ∈ splitBy 46 (a ++ [c])
  | [] => ⟨[], by show [c] ∈ splitBy 46 [c]; rw [splitBy_none (by simp; exact fun h => hc h.symm)]; simp⟩
  | x :: a => by
    obtain ⟨y, hy⟩ := split_snoc c hc a
    show ∃ y, y ++ [c] ∈ splitBy 46 (x :: (a ++ [c]))
    unfold splitBy
    split
    · exact ⟨y, List.mem_cons_of_mem _ hy⟩
    · cases h : splitBy 46 (a ++ [c]) with
      | nil => exact absurd h (split_ne _)
      | cons z r =>
        rw [h] at hy
        rcases List.mem_cons.1 hy with rfl | hy
        · exact ⟨x :: y, by simp⟩
        · exact ⟨y, List.mem_cons_of_mem _ hy⟩
theorem split_chars (P : UInt8 → Bool) : ∀ s : List UInt8, (splitBy 46 s).all (fun l => l.all P) = true → ∀ x ∈ s, P x = true ∨ x = 46
  | [], _, x, hx => by cases hx
  | b :: l, h, x, hx => by
    unfold splitBy at h
    by_cases hb : b = 46
    · rw [if_pos hb] at h
      rcases List.mem_cons.1 hx with rfl | hx
      · exact .inr hb
      · exact split_chars P l (by simpa using h) x hx
    · rw [if_neg hb] at h
      cases hs : splitBy 46 l with
      | nil => exact absurd hs (split_ne l)
      | cons y r =>
        rw [hs] at h
        simp only [List.all_cons, Bool.and_eq_true] at h
        rcases List.mem_cons.1 hx with rfl | hx
        · exact .inl h.1.1
        · exact split_chars P l (by rw [hs]; simp only [List.all_cons, Bool.and_eq_true]; exact ⟨h.1.2, h.2⟩) x hx
theorem label_chars {s : List UInt8} (h : label s = true) : s.all labelC = true := by
  unfold label at h
  simp only [Bool.and_eq_true] at h
  exact h.1.1.1.1
theorem wrap_len (n : Nat) (h : n ≤ 9000000000000000000) : IntKind.i64.wrap ((n : Int) - 1) = (n : Int) - 1 := IntWalk.i64_in _ (by omega)
/-- A text without its first sign. -/
def cutP (s : List UInt8) (c : UInt8) : List UInt8 × Bool := if s.head? = some c then (s.tail, true) else (s, false)
def cutS (s : List UInt8) (c : UInt8) : List UInt8 × Bool := if s.getLast? = some c then (s.dropLast, true) else (s, false)
def cutA (s : List UInt8) (c : UInt8) : List UInt8 × List UInt8 × Bool := if c ∈ s then (s.takeWhile (· != c), (s.dropWhile (· != c)).tail, true) else (s, [], false)
theorem T62 (s : List UInt8) (c : UInt8) (hs : s.length ≤ 9000000000000000000) : T 62 [.str s, .str [c]] [] = some (.bool (decide (s.head? = some c)), []) := by
  refine evT_of (k := 0) (F := l62) (H' := []) (e := [.bool (decide (s.head? = some c))]) (l := [.bool (decide (s.head? = some c))]) rfl rfl rfl ?_ rfl rfl
  show evL T 0 q62 _ _ = _
  cases s with
  | nil =>
    have h1 : ¬ (((1 : Nat) : Int) ≤ ((0 : Nat) : Int)) := by decide
    simp only [q62, evL_op, evL_sel, evL_nx, evL_exit, evL_ret, evL_join, evL_block, evL_cond, evK_some, evJ_nx, evJ_rt, evJ_ex, evB_nx, evB_rt, evB_ex, evC2_bool, evS_and, evS_or, evS_tf, evS_ft, ev_t, ev_s, ev_c, evalOp, bin_add, bin_sub, bin_mul, bin_eql, bin_neq, bin_lss, bin_leq, bin_gtr, bin_geq, sbin_eql, sbin_neq, b8, List.map_cons, List.map_nil, PV.rens, PV.ren, if_true, if_false, Bool.false_eq_true, reduceIte, Nat.reduceAdd, Nat.reduceSub, Nat.reduceMul, Nat.reduceEqDiff, Nat.reduceLeDiff, Int.reduceLE, Int.reduceLT, Int.reduceEq, Int.reduceToNat, Int.reduceAdd, Int.reduceSub, Int.reduceNeg, decide_true, decide_false, Bool.not_true, Bool.not_false, Bool.true_and, Bool.false_and, Bool.and_true, Bool.and_false, Bool.or_true, Bool.true_or, Bool.or_false, Bool.false_or, and_self, and_true, true_and, Nat.le_refl, Nat.zero_add, Nat.mul_one, Nat.one_ne_zero, Nat.zero_le, highP, lowP, Option.map_some, Option.map_none, List.drop_zero, List.take_zero, List.length_cons, List.length_nil, List.nil_append, List.append_nil, List.cons_append, fillP, PV.cells?, PV.one, PV.cleans, PV.clean, PV.of?, List.all_cons, List.all_nil, List.take_succ_cons, List.drop_succ_cons, Bool.and_self, Int.natCast_nonneg, Int.toNat_natCast, Int.toNat_zero, h1, List.head?_nil, reduceCtorEq]
  | cons a r =>
    have h1 : ((1 : Nat) : Int) ≤ ((r.length + 1 : Nat) : Int) := by omega
    have h2 : (0 : Int) ≤ ((1 : Nat) : Int) := by decide
    have h3 : ((1 : Nat) : Int).toNat = 1 := rfl
    simp only [q62, evL_op, evL_sel, evL_nx, evL_exit, evL_ret, evL_join, evL_block, evL_cond, evK_some, evJ_nx, evJ_rt, evJ_ex, evB_nx, evB_rt, evB_ex, evC2_bool, evS_and, evS_or, evS_tf, evS_ft, ev_t, ev_s, ev_c, evalOp, bin_add, bin_sub, bin_mul, bin_eql, bin_neq, bin_lss, bin_leq, bin_gtr, bin_geq, sbin_eql, sbin_neq, b8, List.map_cons, List.map_nil, PV.rens, PV.ren, if_true, if_false, Bool.false_eq_true, reduceIte, Nat.reduceAdd, Nat.reduceSub, Nat.reduceMul, Nat.reduceEqDiff, Nat.reduceLeDiff, Int.reduceLE, Int.reduceLT, Int.reduceEq, Int.reduceToNat, Int.reduceAdd, Int.reduceSub, Int.reduceNeg, decide_true, decide_false, Bool.not_true, Bool.not_false, Bool.true_and, Bool.false_and, Bool.and_true, Bool.and_false, Bool.or_true, Bool.true_or, Bool.or_false, Bool.false_or, and_self, and_true, true_and, Nat.le_refl, Nat.zero_add, Nat.mul_one, Nat.one_ne_zero, Nat.zero_le, highP, lowP, Option.map_some, Option.map_none, List.drop_zero, List.take_zero, List.length_cons, List.length_nil, List.nil_append, List.append_nil, List.cons_append, fillP, PV.cells?, PV.one, PV.cleans, PV.clean, PV.of?, List.all_cons, List.all_nil, List.take_succ_cons, List.drop_succ_cons, Bool.and_self, Int.natCast_nonneg, Int.toNat_natCast, Int.toNat_zero, h1, h2, h3, List.head?_cons, Option.some.injEq, List.take_succ_cons, List.cons.injEq]
theorem T63 (s : List UInt8) (c : UInt8) (hs : s.length ≤ 9000000000000000000) : T 63 [.str s, .str [c]] [] = some (.tup [.str (cutP s c).1, .bool (cutP s c).2], []) := by
  refine evT_of (k := 0) (F := l63) (H' := []) (e := [.str (cutP s c).1, .bool (cutP s c).2]) (l := [.str (cutP s c).1, .bool (cutP s c).2]) rfl rfl rfl ?_ rfl rfl
  show evL T 0 q63 _ _ = _
  have h46 := T62 s c hs
  unfold cutP
  by_cases h : s.head? = some c
  · obtain ⟨r, rfl⟩ : ∃ r, s = c :: r := by cases s with | nil => simp at h | cons a r => simp at h; exact ⟨r, by rw [h]⟩
    have h2 : (0 : Int) ≤ ((1 : Nat) : Int) := by decide
    have h3 : ((1 : Nat) : Int).toNat = 1 := rfl
    have h4 : (c :: r).length ≥ 1 := by simp
    simp only [List.head?_cons, decide_true] at h46
    simp only [q63, evL_op, evL_sel, evL_nx, evL_exit, evL_ret, evL_join, evL_block, evL_cond, evK_some, evJ_nx, evJ_rt, evJ_ex, evB_nx, evB_rt, evB_ex, evC2_bool, evS_and, evS_or, evS_tf, evS_ft, ev_t, ev_s, ev_c, evalOp, bin_add, bin_sub, bin_mul, bin_eql, bin_neq, bin_lss, bin_leq, bin_gtr, bin_geq, sbin_eql, sbin_neq, b8, List.map_cons, List.map_nil, PV.rens, PV.ren, if_true, if_false, Bool.false_eq_true, reduceIte, Nat.reduceAdd, Nat.reduceSub, Nat.reduceMul, Nat.reduceEqDiff, Nat.reduceLeDiff, Int.reduceLE, Int.reduceLT, Int.reduceEq, Int.reduceToNat, Int.reduceAdd, Int.reduceSub, Int.reduceNeg, decide_true, decide_false, Bool.not_true, Bool.not_false, Bool.true_and, Bool.false_and, Bool.and_true, Bool.and_false, Bool.or_true, Bool.true_or, Bool.or_false, Bool.false_or, and_self, and_true, true_and, Nat.le_refl, Nat.zero_add, Nat.mul_one, Nat.one_ne_zero, Nat.zero_le, highP, lowP, Option.map_some, Option.map_none, List.drop_zero, List.take_zero, List.length_cons, List.length_nil, List.nil_append, List.append_nil, List.cons_append, fillP, PV.cells?, PV.one, PV.cleans, PV.clean, PV.of?, List.all_cons, List.all_nil, List.take_succ_cons, List.drop_succ_cons, Bool.and_self, Int.natCast_nonneg, Int.toNat_natCast, Int.toNat_zero, h46, h, h2, h3, List.tail_cons, List.take_length, List.length_cons, Nat.le_add_left, List.take_succ_cons]
  · simp only [h, decide_false] at h46
    simp only [q63, evL_op, evL_sel, evL_nx, evL_exit, evL_ret, evL_join, evL_block, evL_cond, evK_some, evJ_nx, evJ_rt, evJ_ex, evB_nx, evB_rt, evB_ex, evC2_bool, evS_and, evS_or, evS_tf, evS_ft, ev_t, ev_s, ev_c, evalOp, bin_add, bin_sub, bin_mul, bin_eql, bin_neq, bin_lss, bin_leq, bin_gtr, bin_geq, sbin_eql, sbin_neq, b8, List.map_cons, List.map_nil, PV.rens, PV.ren, if_true, if_false, Bool.false_eq_true, reduceIte, Nat.reduceAdd, Nat.reduceSub, Nat.reduceMul, Nat.reduceEqDiff, Nat.reduceLeDiff, Int.reduceLE, Int.reduceLT, Int.reduceEq, Int.reduceToNat, Int.reduceAdd, Int.reduceSub, Int.reduceNeg, decide_true, decide_false, Bool.not_true, Bool.not_false, Bool.true_and, Bool.false_and, Bool.and_true, Bool.and_false, Bool.or_true, Bool.true_or, Bool.or_false, Bool.false_or, and_self, and_true, true_and, Nat.le_refl, Nat.zero_add, Nat.mul_one, Nat.one_ne_zero, Nat.zero_le, highP, lowP, Option.map_some, Option.map_none, List.drop_zero, List.take_zero, List.length_cons, List.length_nil, List.nil_append, List.append_nil, List.cons_append, fillP, PV.cells?, PV.one, PV.cleans, PV.clean, PV.of?, List.all_cons, List.all_nil, List.take_succ_cons, List.drop_succ_cons, Bool.and_self, Int.natCast_nonneg, Int.toNat_natCast, Int.toNat_zero, h46, h]
theorem T75 (s : List UInt8) (c : UInt8) (hs : s.length ≤ 9000000000000000000) : T 75 [.str s, .str [c]] [] = some (.bool (decide (s.getLast? = some c)), []) := by
  refine evT_of (k := 0) (F := l75) (H' := []) (e := [.bool (decide (s.getLast? = some c))]) (l := [.bool (decide (s.getLast? = some c))]) rfl rfl rfl ?_ rfl rfl
  show evL T 0 q75 _ _ = _
  rcases List.eq_nil_or_concat s with rfl | ⟨r, a, rfl⟩
  · have h1 : ¬ (((1 : Nat) : Int) ≤ ((0 : Nat) : Int)) := by decide
    have hw : IntKind.i64.wrap (((0 : Nat) : Int) - ((1 : Nat) : Int)) = -1 := rfl
    simp only [q75, evL_op, evL_sel, evL_nx, evL_exit, evL_ret, evL_join, evL_block, evL_cond, evK_some, evJ_nx, evJ_rt, evJ_ex, evB_nx, evB_rt, evB_ex, evC2_bool, evS_and, evS_or, evS_tf, evS_ft, ev_t, ev_s, ev_c, evalOp, bin_add, bin_sub, bin_mul, bin_eql, bin_neq, bin_lss, bin_leq, bin_gtr, bin_geq, sbin_eql, sbin_neq, b8, List.map_cons, List.map_nil, PV.rens, PV.ren, if_true, if_false, Bool.false_eq_true, reduceIte, Nat.reduceAdd, Nat.reduceSub, Nat.reduceMul, Nat.reduceEqDiff, Nat.reduceLeDiff, Int.reduceLE, Int.reduceLT, Int.reduceEq, Int.reduceToNat, Int.reduceAdd, Int.reduceSub, Int.reduceNeg, decide_true, decide_false, Bool.not_true, Bool.not_false, Bool.true_and, Bool.false_and, Bool.and_true, Bool.and_false, Bool.or_true, Bool.true_or, Bool.or_false, Bool.false_or, and_self, and_true, true_and, Nat.le_refl, Nat.zero_add, Nat.mul_one, Nat.one_ne_zero, Nat.zero_le, highP, lowP, Option.map_some, Option.map_none, List.drop_zero, List.take_zero, List.length_cons, List.length_nil, List.nil_append, List.append_nil, List.cons_append, fillP, PV.cells?, PV.one, PV.cleans, PV.clean, PV.of?, List.all_cons, List.all_nil, List.take_succ_cons, List.drop_succ_cons, Bool.and_self, Int.natCast_nonneg, Int.toNat_natCast, Int.toNat_zero, h1, hw, List.getLast?_nil, reduceCtorEq]
  · rw [List.concat_eq_append] at *
    have hl : (r ++ [a]).length = r.length + 1 := by simp
    have h1 : ((1 : Nat) : Int) ≤ ((r.length + 1 : Nat) : Int) := by omega
    have hw : IntKind.i64.wrap (((r.length + 1 : Nat) : Int) - ((1 : Nat) : Int)) = (r.length : Int) := by rw [IntWalk.i64_in _ (by rw [hl] at hs; omega)]; omega
    have h2 : r.length ≤ r.length + 1 := by omega
    have h3 : ((r ++ [a]).take (r.length + 1)).drop r.length = [a] := by rw [List.take_of_length_le (by simp)]; simp
    simp only [q75, evL_op, evL_sel, evL_nx, evL_exit, evL_ret, evL_join, evL_block, evL_cond, evK_some, evJ_nx, evJ_rt, evJ_ex, evB_nx, evB_rt, evB_ex, evC2_bool, evS_and, evS_or, evS_tf, evS_ft, ev_t, ev_s, ev_c, evalOp, bin_add, bin_sub, bin_mul, bin_eql, bin_neq, bin_lss, bin_leq, bin_gtr, bin_geq, sbin_eql, sbin_neq, b8, List.map_cons, List.map_nil, PV.rens, PV.ren, if_true, if_false, Bool.false_eq_true, reduceIte, Nat.reduceAdd, Nat.reduceSub, Nat.reduceMul, Nat.reduceEqDiff, Nat.reduceLeDiff, Int.reduceLE, Int.reduceLT, Int.reduceEq, Int.reduceToNat, Int.reduceAdd, Int.reduceSub, Int.reduceNeg, decide_true, decide_false, Bool.not_true, Bool.not_false, Bool.true_and, Bool.false_and, Bool.and_true, Bool.and_false, Bool.or_true, Bool.true_or, Bool.or_false, Bool.false_or, and_self, and_true, true_and, Nat.le_refl, Nat.zero_add, Nat.mul_one, Nat.one_ne_zero, Nat.zero_le, highP, lowP, Option.map_some, Option.map_none, List.drop_zero, List.take_zero, List.length_cons, List.length_nil, List.nil_append, List.append_nil, List.cons_append, fillP, PV.cells?, PV.one, PV.cleans, PV.clean, PV.of?, List.all_cons, List.all_nil, List.take_succ_cons, List.drop_succ_cons, Bool.and_self, Int.natCast_nonneg, Int.toNat_natCast, Int.toNat_zero, hl, h1, hw, h2, h3, List.getLast?_concat, Option.some.injEq, List.cons.injEq]
theorem T64 (s : List UInt8) (c : UInt8) (hs : s.length ≤ 9000000000000000000) : T 64 [.str s, .str [c]] [] = some (.tup [.str (cutS s c).1, .bool (cutS s c).2], []) := by
  refine evT_of (k := 0) (F := l64) (H' := []) (e := [.str (cutS s c).1, .bool (cutS s c).2]) (l := [.str (cutS s c).1, .bool (cutS s c).2]) rfl rfl rfl ?_ rfl rfl
  show evL T 0 q64 _ _ = _
  have h47 := T75 s c hs
  unfold cutS
  by_cases h : s.getLast? = some c
  · rcases List.eq_nil_or_concat s with rfl | ⟨r, a, rfl⟩
    · simp at h
    · rw [List.concat_eq_append] at *
      have hl : (r ++ [a]).length = r.length + 1 := by simp
      have hw : IntKind.i64.wrap (((r.length + 1 : Nat) : Int) - ((1 : Nat) : Int)) = (r.length : Int) := by rw [IntWalk.i64_in _ (by rw [hl] at hs; omega)]; omega
      have h2 : (r.length : Int) ≤ ((r.length + 1 : Nat) : Int) := by omega
      have h3 : (r ++ [a]).take r.length = r := by simp
      simp only [h, decide_true] at h47
      simp only [q64, evL_op, evL_sel, evL_nx, evL_exit, evL_ret, evL_join, evL_block, evL_cond, evK_some, evJ_nx, evJ_rt, evJ_ex, evB_nx, evB_rt, evB_ex, evC2_bool, evS_and, evS_or, evS_tf, evS_ft, ev_t, ev_s, ev_c, evalOp, bin_add, bin_sub, bin_mul, bin_eql, bin_neq, bin_lss, bin_leq, bin_gtr, bin_geq, sbin_eql, sbin_neq, b8, List.map_cons, List.map_nil, PV.rens, PV.ren, if_true, if_false, Bool.false_eq_true, reduceIte, Nat.reduceAdd, Nat.reduceSub, Nat.reduceMul, Nat.reduceEqDiff, Nat.reduceLeDiff, Int.reduceLE, Int.reduceLT, Int.reduceEq, Int.reduceToNat, Int.reduceAdd, Int.reduceSub, Int.reduceNeg, decide_true, decide_false, Bool.not_true, Bool.not_false, Bool.true_and, Bool.false_and, Bool.and_true, Bool.and_false, Bool.or_true, Bool.true_or, Bool.or_false, Bool.false_or, and_self, and_true, true_and, Nat.le_refl, Nat.zero_add, Nat.mul_one, Nat.one_ne_zero, Nat.zero_le, highP, lowP, Option.map_some, Option.map_none, List.drop_zero, List.take_zero, List.length_cons, List.length_nil, List.nil_append, List.append_nil, List.cons_append, fillP, PV.cells?, PV.one, PV.cleans, PV.clean, PV.of?, List.all_cons, List.all_nil, List.take_succ_cons, List.drop_succ_cons, Bool.and_self, Int.natCast_nonneg, Int.toNat_natCast, Int.toNat_zero, h47, h, hl, hw, h2, h3, List.dropLast_concat]
  · simp only [h, decide_false] at h47
    simp only [q64, evL_op, evL_sel, evL_nx, evL_exit, evL_ret, evL_join, evL_block, evL_cond, evK_some, evJ_nx, evJ_rt, evJ_ex, evB_nx, evB_rt, evB_ex, evC2_bool, evS_and, evS_or, evS_tf, evS_ft, ev_t, ev_s, ev_c, evalOp, bin_add, bin_sub, bin_mul, bin_eql, bin_neq, bin_lss, bin_leq, bin_gtr, bin_geq, sbin_eql, sbin_neq, b8, List.map_cons, List.map_nil, PV.rens, PV.ren, if_true, if_false, Bool.false_eq_true, reduceIte, Nat.reduceAdd, Nat.reduceSub, Nat.reduceMul, Nat.reduceEqDiff, Nat.reduceLeDiff, Int.reduceLE, Int.reduceLT, Int.reduceEq, Int.reduceToNat, Int.reduceAdd, Int.reduceSub, Int.reduceNeg, decide_true, decide_false, Bool.not_true, Bool.not_false, Bool.true_and, Bool.false_and, Bool.and_true, Bool.and_false, Bool.or_true, Bool.true_or, Bool.or_false, Bool.false_or, and_self, and_true, true_and, Nat.le_refl, Nat.zero_add, Nat.mul_one, Nat.one_ne_zero, Nat.zero_le, highP, lowP, Option.map_some, Option.map_none, List.drop_zero, List.take_zero, List.length_cons, List.length_nil, List.nil_append, List.append_nil, List.cons_append, fillP, PV.cells?, PV.one, PV.cleans, PV.clean, PV.of?, List.all_cons, List.all_nil, List.take_succ_cons, List.drop_succ_cons, Bool.and_self, Int.natCast_nonneg, Int.toNat_natCast, Int.toNat_zero, h47, h]
theorem T76 (s : List UInt8) (c : UInt8) : T 76 [.str s, .str [c]] [] = some (.int .i64 (idxB s c), []) := evT_ov (φ := ovI1) rfl rfl
theorem T65 (s : List UInt8) (c : UInt8) (hs : s.length ≤ 9000000000000000000) : T 65 [.str s, .str [c]] [] = some (.tup [.str (cutA s c).1, .str (cutA s c).2.1, .bool (cutA s c).2.2], []) := by
  refine evT_of (k := 0) (F := l65) (H' := []) (e := [.str (cutA s c).1, .str (cutA s c).2.1, .bool (cutA s c).2.2]) (l := [.str (cutA s c).1, .str (cutA s c).2.1, .bool (cutA s c).2.2]) rfl rfl rfl ?_ rfl rfl
  show evL T 0 q65 _ _ = _
  have h48 := T76 s c
  rcases idxB_cases s c with ⟨h1, h2⟩ | ⟨a, b, h1, h2, h3⟩
  · have h3 : ¬ ((0 : Int) ≤ -1) := by decide
    simp only [h1] at h48
    simp only [q65, evL_op, evL_sel, evL_nx, evL_exit, evL_ret, evL_join, evL_block, evL_cond, evK_some, evJ_nx, evJ_rt, evJ_ex, evB_nx, evB_rt, evB_ex, evC2_bool, evS_and, evS_or, evS_tf, evS_ft, ev_t, ev_s, ev_c, evalOp, bin_add, bin_sub, bin_mul, bin_eql, bin_neq, bin_lss, bin_leq, bin_gtr, bin_geq, sbin_eql, sbin_neq, b8, List.map_cons, List.map_nil, PV.rens, PV.ren, if_true, if_false, Bool.false_eq_true, reduceIte, Nat.reduceAdd, Nat.reduceSub, Nat.reduceMul, Nat.reduceEqDiff, Nat.reduceLeDiff, Int.reduceLE, Int.reduceLT, Int.reduceEq, Int.reduceToNat, Int.reduceAdd, Int.reduceSub, Int.reduceNeg, decide_true, decide_false, Bool.not_true, Bool.not_false, Bool.true_and, Bool.false_and, Bool.and_true, Bool.and_false, Bool.or_true, Bool.true_or, Bool.or_false, Bool.false_or, and_self, and_true, true_and, Nat.le_refl, Nat.zero_add, Nat.mul_one, Nat.one_ne_zero, Nat.zero_le, highP, lowP, Option.map_some, Option.map_none, List.drop_zero, List.take_zero, List.length_cons, List.length_nil, List.nil_append, List.append_nil, List.cons_append, fillP, PV.cells?, PV.one, PV.cleans, PV.clean, PV.of?, List.all_cons, List.all_nil, List.take_succ_cons, List.drop_succ_cons, Bool.and_self, Int.natCast_nonneg, Int.toNat_natCast, Int.toNat_zero, h48, h3, cutA, h2]
  · simp only [h3] at h48
    have hl : s.length = a.length + (b.length + 1) := by rw [h1]; simp
    have e1 : (a.length : Int) ≤ (s.length : Int) := by omega
    have hw : IntKind.i64.wrap ((a.length : Int) + ((1 : Nat) : Int)) = ((a.length + 1 : Nat) : Int) := by rw [IntWalk.i64_in _ (by omega)]; rfl
    have e2 : a.length + 1 ≤ s.length := by omega
    have e3 : s.take a.length = a := by rw [h1]; simp
    have e4 : (s.take s.length).drop (a.length + 1) = b := by rw [List.take_length, h1]; simp
    have hm : c ∈ s := by rw [h1]; simp
    have hne : ∀ x ∈ a, (x != c) = true := fun x hx => by simp; intro e; subst e; exact h2 hx
    have e5 : s.takeWhile (· != c) = a := by rw [h1, List.takeWhile_append_of_pos hne]; simp
    have e6 : (s.dropWhile (· != c)).tail = b := by rw [h1, List.dropWhile_append_of_pos hne]; simp
    simp only [q65, evL_op, evL_sel, evL_nx, evL_exit, evL_ret, evL_join, evL_block, evL_cond, evK_some, evJ_nx, evJ_rt, evJ_ex, evB_nx, evB_rt, evB_ex, evC2_bool, evS_and, evS_or, evS_tf, evS_ft, ev_t, ev_s, ev_c, evalOp, bin_add, bin_sub, bin_mul, bin_eql, bin_neq, bin_lss, bin_leq, bin_gtr, bin_geq, sbin_eql, sbin_neq, b8, List.map_cons, List.map_nil, PV.rens, PV.ren, if_true, if_false, Bool.false_eq_true, reduceIte, Nat.reduceAdd, Nat.reduceSub, Nat.reduceMul, Nat.reduceEqDiff, Nat.reduceLeDiff, Int.reduceLE, Int.reduceLT, Int.reduceEq, Int.reduceToNat, Int.reduceAdd, Int.reduceSub, Int.reduceNeg, decide_true, decide_false, Bool.not_true, Bool.not_false, Bool.true_and, Bool.false_and, Bool.and_true, Bool.and_false, Bool.or_true, Bool.true_or, Bool.or_false, Bool.false_or, and_self, and_true, true_and, Nat.le_refl, Nat.zero_add, Nat.mul_one, Nat.one_ne_zero, Nat.zero_le, highP, lowP, Option.map_some, Option.map_none, List.drop_zero, List.take_zero, List.length_cons, List.length_nil, List.nil_append, List.append_nil, List.cons_append, fillP, PV.cells?, PV.one, PV.cleans, PV.clean, PV.of?, List.all_cons, List.all_nil, List.take_succ_cons, List.drop_succ_cons, Bool.and_self, Int.natCast_nonneg, Int.toNat_natCast, Int.toNat_zero, h48, e1, hw, e2, e3, e4, cutA, hm, e5, e6]
theorem T44 (s : List UInt8) (c : UInt8) (hs : s.length ≤ 9000000000000000000) : T 44 [.str s, .str [c]] [] = some (.tup [.str (cutP s c).1, .bool (cutP s c).2], []) := by
  refine evT_of (k := 0) (F := l44) (H' := []) (e := [.str (cutP s c).1, .bool (cutP s c).2]) (l := [.str (cutP s c).1, .bool (cutP s c).2]) rfl rfl rfl ?_ rfl rfl
  have h := T63 s c hs
  show evL T 0 q44 _ _ = _
  simp only [q44, evL_op, evL_sel, evL_nx, evL_exit, evL_ret, evL_join, evL_block, evL_cond, evK_some, evJ_nx, evJ_rt, evJ_ex, evB_nx, evB_rt, evB_ex, evC2_bool, evS_and, evS_or, evS_tf, evS_ft, ev_t, ev_s, ev_c, evalOp, bin_add, bin_sub, bin_mul, bin_eql, bin_neq, bin_lss, bin_leq, bin_gtr, bin_geq, sbin_eql, sbin_neq, b8, List.map_cons, List.map_nil, PV.rens, PV.ren, if_true, if_false, Bool.false_eq_true, reduceIte, Nat.reduceAdd, Nat.reduceSub, Nat.reduceMul, Nat.reduceEqDiff, Nat.reduceLeDiff, Int.reduceLE, Int.reduceLT, Int.reduceEq, Int.reduceToNat, Int.reduceAdd, Int.reduceSub, Int.reduceNeg, decide_true, decide_false, Bool.not_true, Bool.not_false, Bool.true_and, Bool.false_and, Bool.and_true, Bool.and_false, Bool.or_true, Bool.true_or, Bool.or_false, Bool.false_or, and_self, and_true, true_and, Nat.le_refl, Nat.zero_add, Nat.mul_one, Nat.one_ne_zero, Nat.zero_le, highP, lowP, Option.map_some, Option.map_none, List.drop_zero, List.take_zero, List.length_cons, List.length_nil, List.nil_append, List.append_nil, List.cons_append, fillP, PV.cells?, PV.one, PV.cleans, PV.clean, PV.of?, List.all_cons, List.all_nil, List.take_succ_cons, List.drop_succ_cons, Bool.and_self, Int.natCast_nonneg, Int.toNat_natCast, Int.toNat_zero, h, List.getElem?_cons_zero, List.getElem?_cons_succ]
theorem T45 (s : List UInt8) (c : UInt8) (hs : s.length ≤ 9000000000000000000) : T 45 [.str s, .str [c]] [] = some (.tup [.str (cutS s c).1, .bool (cutS s c).2], []) := by
  refine evT_of (k := 0) (F := l45) (H' := []) (e := [.str (cutS s c).1, .bool (cutS s c).2]) (l := [.str (cutS s c).1, .bool (cutS s c).2]) rfl rfl rfl ?_ rfl rfl
  have h := T64 s c hs
  show evL T 0 q45 _ _ = _
  simp only [q45, evL_op, evL_sel, evL_nx, evL_exit, evL_ret, evL_join, evL_block, evL_cond, evK_some, evJ_nx, evJ_rt, evJ_ex, evB_nx, evB_rt, evB_ex, evC2_bool, evS_and, evS_or, evS_tf, evS_ft, ev_t, ev_s, ev_c, evalOp, bin_add, bin_sub, bin_mul, bin_eql, bin_neq, bin_lss, bin_leq, bin_gtr, bin_geq, sbin_eql, sbin_neq, b8, List.map_cons, List.map_nil, PV.rens, PV.ren, if_true, if_false, Bool.false_eq_true, reduceIte, Nat.reduceAdd, Nat.reduceSub, Nat.reduceMul, Nat.reduceEqDiff, Nat.reduceLeDiff, Int.reduceLE, Int.reduceLT, Int.reduceEq, Int.reduceToNat, Int.reduceAdd, Int.reduceSub, Int.reduceNeg, decide_true, decide_false, Bool.not_true, Bool.not_false, Bool.true_and, Bool.false_and, Bool.and_true, Bool.and_false, Bool.or_true, Bool.true_or, Bool.or_false, Bool.false_or, and_self, and_true, true_and, Nat.le_refl, Nat.zero_add, Nat.mul_one, Nat.one_ne_zero, Nat.zero_le, highP, lowP, Option.map_some, Option.map_none, List.drop_zero, List.take_zero, List.length_cons, List.length_nil, List.nil_append, List.append_nil, List.cons_append, fillP, PV.cells?, PV.one, PV.cleans, PV.clean, PV.of?, List.all_cons, List.all_nil, List.take_succ_cons, List.drop_succ_cons, Bool.and_self, Int.natCast_nonneg, Int.toNat_natCast, Int.toNat_zero, h, List.getElem?_cons_zero, List.getElem?_cons_succ]
theorem T46 (s : List UInt8) (c : UInt8) (hs : s.length ≤ 9000000000000000000) : T 46 [.str s, .str [c]] [] = some (.tup [.str (cutA s c).1, .str (cutA s c).2.1, .bool (cutA s c).2.2], []) := by
  refine evT_of (k := 0) (F := l46) (H' := []) (e := [.str (cutA s c).1, .str (cutA s c).2.1, .bool (cutA s c).2.2]) (l := [.str (cutA s c).1, .str (cutA s c).2.1, .bool (cutA s c).2.2]) rfl rfl rfl ?_ rfl rfl
  have h := T65 s c hs
  show evL T 0 q46 _ _ = _
  simp only [q46, evL_op, evL_sel, evL_nx, evL_exit, evL_ret, evL_join, evL_block, evL_cond, evK_some, evJ_nx, evJ_rt, evJ_ex, evB_nx, evB_rt, evB_ex, evC2_bool, evS_and, evS_or, evS_tf, evS_ft, ev_t, ev_s, ev_c, evalOp, bin_add, bin_sub, bin_mul, bin_eql, bin_neq, bin_lss, bin_leq, bin_gtr, bin_geq, sbin_eql, sbin_neq, b8, List.map_cons, List.map_nil, PV.rens, PV.ren, if_true, if_false, Bool.false_eq_true, reduceIte, Nat.reduceAdd, Nat.reduceSub, Nat.reduceMul, Nat.reduceEqDiff, Nat.reduceLeDiff, Int.reduceLE, Int.reduceLT, Int.reduceEq, Int.reduceToNat, Int.reduceAdd, Int.reduceSub, Int.reduceNeg, decide_true, decide_false, Bool.not_true, Bool.not_false, Bool.true_and, Bool.false_and, Bool.and_true, Bool.and_false, Bool.or_true, Bool.true_or, Bool.or_false, Bool.false_or, and_self, and_true, true_and, Nat.le_refl, Nat.zero_add, Nat.mul_one, Nat.one_ne_zero, Nat.zero_le, highP, lowP, Option.map_some, Option.map_none, List.drop_zero, List.take_zero, List.length_cons, List.length_nil, List.nil_append, List.append_nil, List.cons_append, fillP, PV.cells?, PV.one, PV.cleans, PV.clean, PV.of?, List.all_cons, List.all_nil, List.take_succ_cons, List.drop_succ_cons, Bool.and_self, Int.natCast_nonneg, Int.toNat_natCast, Int.toNat_zero, h, List.getElem?_cons_zero, List.getElem?_cons_succ]
theorem cutP_len (s : List UInt8) (c : UInt8) : (cutP s c).1.length ≤ s.length := by unfold cutP; split <;> simp
theorem cutS_len (s : List UInt8) (c : UInt8) : (cutS s c).1.length ≤ s.length := by unfold cutS; split <;> simp
theorem cutA_len (s : List UInt8) (c : UInt8) : (cutA s c).1.length + (cutA s c).2.1.length ≤ s.length := by
  unfold cutA
  split
  · rename_i h
    have e : s = s.takeWhile (· != c) ++ s.dropWhile (· != c) := (List.takeWhile_append_dropWhile).symm
    have h2 : s.length = (s.takeWhile (· != c)).length + (s.dropWhile (· != c)).length := by rw [← List.length_append, ← e]
    simp only [List.length_tail]; omega
  · simp
/-- What a text between brackets is. -/
def inner (s : List UInt8) : List UInt8 × List UInt8 := ((cutA (cutS (cutP s 60).1 62).1 64).1, (cutA (cutS (cutP s 60).1 62).1 64).2.1)
def innerOk (s : List UInt8) : Bool := (cutP s 60).2 && (cutS (cutP s 60).1 62).2 && (cutA (cutS (cutP s 60).1 62).1 64).2.2 && pathOk false (inner s).1 (inner s).2
abbrev pathV (n : Bool) (l d : List UInt8) : PV := .agg [.bool n, .str l, .str d]
def parseC (s : List UInt8) : List PV := if s = [60, 62] then [.bool true, .str [], .str []] else if innerOk s = true then [.bool false, .str (inner s).1, .str (inner s).2] else [.bool false, .str [], .str []]
def parseV (s : List UInt8) : PV := .agg (parseC s)
theorem parseC_len (s : List UInt8) : (parseC s).length = 3 := by unfold parseC; split <;> (try split) <;> rfl
def parseOk (s : List UInt8) : Bool := decide (s = [60, 62]) || innerOk s
theorem T23 (s : List UInt8) (hs : s.length < 4294967281) : T 23 [.str s] [] = some (.tup [parseV s, .int .i64 (if parseOk s = true then 0 else 5)], []) := by
  by_cases h0 : s = [60, 62]
  · subst h0
    exact evT_iff.2 ⟨50, by kernel_rfl⟩
  · have hp := cutP_len s 60
    have hq := cutS_len (cutP s 60).1 62
    have hr := cutA_len (cutS (cutP s 60).1 62).1 64
    have a1 := T44 s 60 (by omega)
    have a2 := T45 (cutP s 60).1 62 (by omega)
    have a3 := T46 (cutS (cutP s 60).1 62).1 64 (by omega)
    have a4 := T35 false (inner s).1 (inner s).2 (by show (cutA (cutS (cutP s 60).1 62).1 64).1.length + (cutA (cutS (cutP s 60).1 62).1 64).2.1.length < _; omega)
    have i1 : (cutA (cutS (cutP s 60).1 62).1 64).1 = (inner s).1 := rfl
    have i2 : (cutA (cutS (cutP s 60).1 62).1 64).2.1 = (inner s).2 := rfl
    have hB : (!(cutP s 60).2 || !(cutS (cutP s 60).1 62).2 || !(cutA (cutS (cutP s 60).1 62).1 64).2.2 || !decide ((if pathOk false (inner s).1 (inner s).2 = true then (0 : Int) else 5) = 0)) = !innerOk s := by
      unfold innerOk
      cases pathOk false (inner s).1 (inner s).2 <;> simp
    cases hok : innerOk s with
    | true =>
      rw [hok] at hB
      have e1 : parseV s = pathV false (inner s).1 (inner s).2 := by simp [parseV, parseC, h0, hok]
      have e2 : parseOk s = true := by simp [parseOk, h0, hok]
      rw [e1, e2]
      refine evT_of (k := 0) (F := l23) (H' := [.cells [.bool false, .str (inner s).1, .str (inner s).2], .cells [.bool false, .str (inner s).1, .str (inner s).2]]) (e := [.ptr 0 0, .int .i64 0]) (l := [pathV false (inner s).1 (inner s).2, .int .i64 0]) rfl rfl rfl ?_ rfl rfl
      show evL T 0 q23 _ _ = _
      simp only [q23, evL_op, evL_sel, evL_nx, evL_exit, evL_ret, evL_join, evL_block, evL_cond, evK_some, evJ_nx, evJ_rt, evJ_ex, evB_nx, evB_rt, evB_ex, evC2_bool, evS_and, evS_or, evS_tf, evS_ft, ev_t, ev_s, ev_c, evalOp, bin_add, bin_sub, bin_mul, bin_eql, bin_neq, bin_lss, bin_leq, bin_gtr, bin_geq, sbin_eql, sbin_neq, b8, List.map_cons, List.map_nil, PV.rens, PV.ren, if_true, if_false, Bool.false_eq_true, reduceIte, Nat.reduceAdd, Nat.reduceSub, Nat.reduceMul, Nat.reduceEqDiff, Nat.reduceLeDiff, Int.reduceLE, Int.reduceLT, Int.reduceEq, Int.reduceToNat, Int.reduceAdd, Int.reduceSub, Int.reduceNeg, decide_true, decide_false, Bool.not_true, Bool.not_false, Bool.true_and, Bool.false_and, Bool.and_true, Bool.and_false, Bool.or_true, Bool.true_or, Bool.or_false, Bool.false_or, and_self, and_true, true_and, Nat.le_refl, Nat.zero_add, Nat.mul_one, Nat.one_ne_zero, Nat.zero_le, highP, lowP, Option.map_some, Option.map_none, List.drop_zero, List.take_zero, List.length_cons, List.length_nil, List.nil_append, List.append_nil, List.cons_append, fillP, PV.cells?, PV.one, PV.cleans, PV.clean, PV.of?, List.all_cons, List.all_nil, List.take_succ_cons, List.drop_succ_cons, Bool.and_self, Int.natCast_nonneg, Int.toNat_natCast, Int.toNat_zero, h0, a1, a2, a3, a4, i1, i2, hB, List.getElem?_cons_zero, List.getElem?_cons_succ, List.set_cons_zero, List.set_cons_succ]
    | false =>
      rw [hok] at hB
      have e1 : parseV s = pathV false [] [] := by simp [parseV, parseC, h0, hok]
      have e2 : parseOk s = false := by simp [parseOk, h0, hok]
      rw [e1, e2]
      refine evT_of (k := 0) (F := l23) (H' := [.cells [.bool false, .str [], .str []], .cells [.bool false, .str (inner s).1, .str (inner s).2]]) (e := [.ptr 0 0, .int .i64 5]) (l := [pathV false [] [], .int .i64 5]) rfl rfl rfl ?_ rfl rfl
      show evL T 0 q23 _ _ = _
      simp only [q23, evL_op, evL_sel, evL_nx, evL_exit, evL_ret, evL_join, evL_block, evL_cond, evK_some, evJ_nx, evJ_rt, evJ_ex, evB_nx, evB_rt, evB_ex, evC2_bool, evS_and, evS_or, evS_tf, evS_ft, ev_t, ev_s, ev_c, evalOp, bin_add, bin_sub, bin_mul, bin_eql, bin_neq, bin_lss, bin_leq, bin_gtr, bin_geq, sbin_eql, sbin_neq, b8, List.map_cons, List.map_nil, PV.rens, PV.ren, if_true, if_false, Bool.false_eq_true, reduceIte, Nat.reduceAdd, Nat.reduceSub, Nat.reduceMul, Nat.reduceEqDiff, Nat.reduceLeDiff, Int.reduceLE, Int.reduceLT, Int.reduceEq, Int.reduceToNat, Int.reduceAdd, Int.reduceSub, Int.reduceNeg, decide_true, decide_false, Bool.not_true, Bool.not_false, Bool.true_and, Bool.false_and, Bool.and_true, Bool.and_false, Bool.or_true, Bool.true_or, Bool.or_false, Bool.false_or, and_self, and_true, true_and, Nat.le_refl, Nat.zero_add, Nat.mul_one, Nat.one_ne_zero, Nat.zero_le, highP, lowP, Option.map_some, Option.map_none, List.drop_zero, List.take_zero, List.length_cons, List.length_nil, List.nil_append, List.append_nil, List.cons_append, fillP, PV.cells?, PV.one, PV.cleans, PV.clean, PV.of?, List.all_cons, List.all_nil, List.take_succ_cons, List.drop_succ_cons, Bool.and_self, Int.natCast_nonneg, Int.toNat_natCast, Int.toNat_zero, h0, a1, a2, a3, a4, i1, i2, hB, List.getElem?_cons_zero, List.getElem?_cons_succ, List.set_cons_zero, List.set_cons_succ]
def textOf (n : Bool) (l d : List UInt8) : List UInt8 := if n = true then [60, 62] else 60 :: (l ++ 64 :: (d ++ [62]))
theorem T18 (n : Bool) (l d : List UInt8) (hl : l.length + d.length < 4294967281) : T 18 [pathV n l d] [] = some (.tup [.str (if pathOk n l d = true then textOf n l d else []), .int .i64 (if pathOk n l d = true then 0 else 5)], []) := by
  have a1 := T35 n l d hl
  refine evT_of (k := 0) (F := l18) (H' := [.cells [.bool n, .str l, .str d]]) (e := [.str (if pathOk n l d = true then textOf n l d else []), .int .i64 (if pathOk n l d = true then 0 else 5)]) (l := [.str (if pathOk n l d = true then textOf n l d else []), .int .i64 (if pathOk n l d = true then 0 else 5)]) rfl rfl rfl ?_ rfl rfl
  show evL T 0 q18 _ _ = _
  have s1 := sbin_add (s := [60]) (u := l) (by simp only [List.length_cons, List.length_nil]; omega)
  have s2 := sbin_add (s := [60] ++ l) (u := [64]) (by simp only [List.length_append, List.length_cons, List.length_nil]; omega)
  have s3 := sbin_add (s := [60] ++ l ++ [64]) (u := d) (by simp only [List.length_append, List.length_cons, List.length_nil]; omega)
  have s4 := sbin_add (s := [60] ++ l ++ [64] ++ d) (u := [62]) (by simp only [List.length_append, List.length_cons, List.length_nil]; omega)
  simp only [List.cons_append, List.nil_append, List.append_assoc] at s1 s2 s3 s4
  cases hp : pathOk n l d with
  | false =>
    simp only [hp] at a1
    simp only [q18, q18_0, evL_op, evL_sel, evL_nx, evL_exit, evL_ret, evL_join, evL_block, evL_cond, evK_some, evJ_nx, evJ_rt, evJ_ex, evB_nx, evB_rt, evB_ex, evC2_bool, evS_and, evS_or, evS_tf, evS_ft, ev_t, ev_s, ev_c, evalOp, bin_add, bin_sub, bin_mul, bin_eql, bin_neq, bin_lss, bin_leq, bin_gtr, bin_geq, sbin_eql, sbin_neq, b8, List.map_cons, List.map_nil, PV.rens, PV.ren, if_true, if_false, Bool.false_eq_true, reduceIte, Nat.reduceAdd, Nat.reduceSub, Nat.reduceMul, Nat.reduceEqDiff, Nat.reduceLeDiff, Int.reduceLE, Int.reduceLT, Int.reduceEq, Int.reduceToNat, Int.reduceAdd, Int.reduceSub, Int.reduceNeg, decide_true, decide_false, Bool.not_true, Bool.not_false, Bool.true_and, Bool.false_and, Bool.and_true, Bool.and_false, Bool.or_true, Bool.true_or, Bool.or_false, Bool.false_or, and_self, and_true, true_and, Nat.le_refl, Nat.zero_add, Nat.mul_one, Nat.one_ne_zero, Nat.zero_le, highP, lowP, Option.map_some, Option.map_none, List.drop_zero, List.take_zero, List.length_cons, List.length_nil, List.nil_append, List.append_nil, List.cons_append, fillP, PV.cells?, PV.one, PV.cleans, PV.clean, PV.of?, List.all_cons, List.all_nil, List.take_succ_cons, List.drop_succ_cons, Bool.and_self, Int.natCast_nonneg, Int.toNat_natCast, Int.toNat_zero, a1, hp, List.getElem?_cons_zero]
  | true =>
    simp only [hp] at a1
    cases n with
    | true => simp only [q18, q18_0, evL_op, evL_sel, evL_nx, evL_exit, evL_ret, evL_join, evL_block, evL_cond, evK_some, evJ_nx, evJ_rt, evJ_ex, evB_nx, evB_rt, evB_ex, evC2_bool, evS_and, evS_or, evS_tf, evS_ft, ev_t, ev_s, ev_c, evalOp, bin_add, bin_sub, bin_mul, bin_eql, bin_neq, bin_lss, bin_leq, bin_gtr, bin_geq, sbin_eql, sbin_neq, b8, List.map_cons, List.map_nil, PV.rens, PV.ren, if_true, if_false, Bool.false_eq_true, reduceIte, Nat.reduceAdd, Nat.reduceSub, Nat.reduceMul, Nat.reduceEqDiff, Nat.reduceLeDiff, Int.reduceLE, Int.reduceLT, Int.reduceEq, Int.reduceToNat, Int.reduceAdd, Int.reduceSub, Int.reduceNeg, decide_true, decide_false, Bool.not_true, Bool.not_false, Bool.true_and, Bool.false_and, Bool.and_true, Bool.and_false, Bool.or_true, Bool.true_or, Bool.or_false, Bool.false_or, and_self, and_true, true_and, Nat.le_refl, Nat.zero_add, Nat.mul_one, Nat.one_ne_zero, Nat.zero_le, highP, lowP, Option.map_some, Option.map_none, List.drop_zero, List.take_zero, List.length_cons, List.length_nil, List.nil_append, List.append_nil, List.cons_append, fillP, PV.cells?, PV.one, PV.cleans, PV.clean, PV.of?, List.all_cons, List.all_nil, List.take_succ_cons, List.drop_succ_cons, Bool.and_self, Int.natCast_nonneg, Int.toNat_natCast, Int.toNat_zero, a1, hp, List.getElem?_cons_zero, textOf]
    | false => simp only [q18, q18_0, evL_op, evL_sel, evL_nx, evL_exit, evL_ret, evL_join, evL_block, evL_cond, evK_some, evJ_nx, evJ_rt, evJ_ex, evB_nx, evB_rt, evB_ex, evC2_bool, evS_and, evS_or, evS_tf, evS_ft, ev_t, ev_s, ev_c, evalOp, bin_add, bin_sub, bin_mul, bin_eql, bin_neq, bin_lss, bin_leq, bin_gtr, bin_geq, sbin_eql, sbin_neq, b8, List.map_cons, List.map_nil, PV.rens, PV.ren, if_true, if_false, Bool.false_eq_true, reduceIte, Nat.reduceAdd, Nat.reduceSub, Nat.reduceMul, Nat.reduceEqDiff, Nat.reduceLeDiff, Int.reduceLE, Int.reduceLT, Int.reduceEq, Int.reduceToNat, Int.reduceAdd, Int.reduceSub, Int.reduceNeg, decide_true, decide_false, Bool.not_true, Bool.not_false, Bool.true_and, Bool.false_and, Bool.and_true, Bool.and_false, Bool.or_true, Bool.true_or, Bool.or_false, Bool.false_or, and_self, and_true, true_and, Nat.le_refl, Nat.zero_add, Nat.mul_one, Nat.one_ne_zero, Nat.zero_le, highP, lowP, Option.map_some, Option.map_none, List.drop_zero, List.take_zero, List.length_cons, List.length_nil, List.nil_append, List.append_nil, List.cons_append, fillP, PV.cells?, PV.one, PV.cleans, PV.clean, PV.of?, List.all_cons, List.all_nil, List.take_succ_cons, List.drop_succ_cons, Bool.and_self, Int.natCast_nonneg, Int.toNat_natCast, Int.toNat_zero, a1, hp, List.getElem?_cons_zero, textOf, s1, s2, s3, s4]
theorem T13 (n m : Bool) (l d k e : List UInt8) : T 13 [pathV n l d, pathV m k e] [] = some (.bool (n == m && decide (l = k) && decide (d = e)), []) := by
  refine evT_of (k := 0) (F := l13) (H' := [.cells [.bool n, .str l, .str d], .cells [.bool m, .str k, .str e]]) (e := [.bool (n == m && decide (l = k) && decide (d = e))]) (l := [.bool (n == m && decide (l = k) && decide (d = e))]) rfl rfl rfl ?_ rfl rfl
  show evL T 0 q13 _ _ = _
  simp only [q13, evL_op, evL_sel, evL_nx, evL_exit, evL_ret, evL_join, evL_block, evL_cond, evK_some, evJ_nx, evJ_rt, evJ_ex, evB_nx, evB_rt, evB_ex, evC2_bool, evS_and, evS_or, evS_tf, evS_ft, ev_t, ev_s, ev_c, evalOp, bin_add, bin_sub, bin_mul, bin_eql, bin_neq, bin_lss, bin_leq, bin_gtr, bin_geq, sbin_eql, sbin_neq, b8, List.map_cons, List.map_nil, PV.rens, PV.ren, if_true, if_false, Bool.false_eq_true, reduceIte, Nat.reduceAdd, Nat.reduceSub, Nat.reduceMul, Nat.reduceEqDiff, Nat.reduceLeDiff, Int.reduceLE, Int.reduceLT, Int.reduceEq, Int.reduceToNat, Int.reduceAdd, Int.reduceSub, Int.reduceNeg, decide_true, decide_false, Bool.not_true, Bool.not_false, Bool.true_and, Bool.false_and, Bool.and_true, Bool.and_false, Bool.or_true, Bool.true_or, Bool.or_false, Bool.false_or, and_self, and_true, true_and, Nat.le_refl, Nat.zero_add, Nat.mul_one, Nat.one_ne_zero, Nat.zero_le, highP, lowP, Option.map_some, Option.map_none, List.drop_zero, List.take_zero, List.length_cons, List.length_nil, List.nil_append, List.append_nil, List.cons_append, fillP, PV.cells?, PV.one, PV.cleans, PV.clean, PV.of?, List.all_cons, List.all_nil, List.take_succ_cons, List.drop_succ_cons, Bool.and_self, Int.natCast_nonneg, Int.toNat_natCast, Int.toNat_zero, List.getElem?_cons_zero, List.getElem?_cons_succ, Bool.false_bne, Bool.bne_false, Bool.xor_false, Bool.false_xor]
end Go.Proofs.YtghnffhgmhfofaaDoor.Tab
