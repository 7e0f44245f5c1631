/- Mailboxes: what the functions of path do. -/
import Derived.Test.YtnljpfjoboafoaaDoorBase
namespace Go.Proofs.YtnljpfjoboafoaaDoor.Tab
set_option linter.all false
open Go Go.RowKit Go.Proofs.YtnljpfjoboafoaaDoor.Ev
def plain (c : UInt8) : Bool := decide ((97 : Int) ≤ c.toNat) && decide ((c.toNat : Int) ≤ 122) || decide ((65 : Int) ≤ c.toNat) && decide ((c.toNat : Int) ≤ 90) || decide ((48 : Int) ≤ c.toNat) && decide ((c.toNat : Int) ≤ 57)
theorem T75 (c : UInt8) : T 75 [.int .u8 c.toNat] [] = some (.bool (plain c), []) := by
  refine evT_of (k := 0) (F := l75) (H' := []) (e := [.bool (plain c)]) (l := [.bool (plain c)]) rfl rfl rfl ?_ rfl rfl
  simp only [l75, q75, evL_op, evL_sel, evL_nx, evL_exit, evL_ret, evL_join, evL_block, evL_cond, evK_some, evJ_nx, evJ_rt, evJ_ex, evB_nx, evB_rt, evB_ex, evC2_bool, evS_and, evS_or, evS_tf, evS_ft, ev_t, ev_s, ev_c, evalOp, bin_add, bin_sub, bin_mul, bin_eql, bin_neq, bin_lss, bin_leq, bin_gtr, bin_geq, sbin_eql, sbin_neq, b8, List.map_cons, List.map_nil, PV.rens, PV.ren, if_true, if_false, Bool.false_eq_true, reduceIte, plain]

def labelC (c : UInt8) : Bool := plain c || c == 45
theorem labelC_eq (c : UInt8) : (!plain c && !decide ((c.toNat : Int) = 45)) = !labelC c := by
  have := byte_ne c 45 (by omega)
  rw [show ((45 : Nat) : Int) = 45 from rfl] at this
  unfold labelC
  rw [this, Bool.not_or]
  rfl
theorem flat3 (s : List UInt8) (n i : Int) : ([PV.str s, .int .i64 n, .int .i64 i]).all flat = true := rfl
section
variable {H : Hp} (hH : Quiet H)
include hH
theorem body77 (k0 : Nat) (s : List UInt8) (n : Int) (i : Nat) (c : UInt8) (hn : (i : Int) < n) (hm : n ≤ 9000000000000000000) (hc : s[i]? = some c) : evL T k0 q77_1 [.str s, .int .i64 n, .int .i64 i] H =
    if labelC c = true then some (.nx, [.str s, .int .i64 n, .int .i64 (i + 1 : Nat)], H) else some (.rt, [.bool false], H) := by
  have hw : IntKind.i64.wrap ((i : Int) + 1) = ((i + 1 : Nat) : Int) := by rw [IntWalk.i64_in _ (by omega)]; rfl
  simp only [q77_1, q77_0, evL_op, evL_sel, evL_nx, evL_exit, evL_ret, evL_join, evL_block, evL_cond, evK_some, evJ_nx, evJ_rt, evJ_ex, evB_nx, evB_rt, evB_ex, evC2_bool, evS_and, evS_or, evS_tf, evS_ft, ev_t, ev_s, ev_c, evalOp, bin_add, bin_sub, bin_mul, bin_eql, bin_neq, bin_lss, bin_leq, bin_gtr, bin_geq, sbin_eql, sbin_neq, b8, List.map_cons, List.map_nil, PV.rens, PV.ren, if_true, if_false, Bool.false_eq_true, reduceIte, hn, decide_true, Int.natCast_nonneg, Int.toNat_natCast, hc, T75]
  rw [labelC_eq]
  cases labelC c with
  | true => simp only [evL_op, evL_sel, evL_nx, evL_exit, evL_ret, evL_join, evL_block, evL_cond, evK_some, evJ_nx, evJ_rt, evJ_ex, evB_nx, evB_rt, evB_ex, evC2_bool, evS_and, evS_or, evS_tf, evS_ft, ev_t, ev_s, ev_c, evalOp, bin_add, bin_sub, bin_mul, bin_eql, bin_neq, bin_lss, bin_leq, bin_gtr, bin_geq, sbin_eql, sbin_neq, b8, List.map_cons, List.map_nil, PV.rens, PV.ren, if_true, if_false, Bool.false_eq_true, reduceIte, Bool.not_true, hw]
  | false => simp only [evL_op, evL_sel, evL_nx, evL_exit, evL_ret, evL_join, evL_block, evL_cond, evK_some, evJ_nx, evJ_rt, evJ_ex, evB_nx, evB_rt, evB_ex, evC2_bool, evS_and, evS_or, evS_tf, evS_ft, ev_t, ev_s, ev_c, evalOp, bin_add, bin_sub, bin_mul, bin_eql, bin_neq, bin_lss, bin_leq, bin_gtr, bin_geq, sbin_eql, sbin_neq, b8, List.map_cons, List.map_nil, PV.rens, PV.ren, if_true, if_false, Bool.false_eq_true, reduceIte, Bool.not_false]
theorem loop77 (k0 : Nat) (s : List UInt8) (hs : s.length ≤ 9000000000000000000) : ∀ (j i : Nat), i + j = s.length → ∀ k, j < k → loopL H.length (evL T k0 q77_1) k [.str s, .int .i64 s.length, .int .i64 i] H =
    if (s.drop i).all labelC = true then some (.ex 0, [.str s], H) else some (.rt, [.bool false], H)
  | j, i, hij, 0, hk => by omega
  | 0, i, hij, k + 1, _ => by
    have h1 : ¬ ((i : Int) < s.length) := by omega
    have h2 : s.drop i = [] := List.drop_of_length_le (by omega)
    have h3 : evL T k0 q77_1 [.str s, .int .i64 s.length, .int .i64 i] H = some (.ex 0, [.str s], H) := by simp only [q77_1, evL_op, evL_sel, evL_nx, evL_exit, evL_ret, evL_join, evL_block, evL_cond, evK_some, evJ_nx, evJ_rt, evJ_ex, evB_nx, evB_rt, evB_ex, evC2_bool, evS_and, evS_or, evS_tf, evS_ft, ev_t, ev_s, ev_c, evalOp, bin_add, bin_sub, bin_mul, bin_eql, bin_neq, bin_lss, bin_leq, bin_gtr, bin_geq, sbin_eql, sbin_neq, b8, List.map_cons, List.map_nil, PV.rens, PV.ren, if_true, if_false, Bool.false_eq_true, reduceIte, h1, decide_false]
    rw [loopL_succ, hH.head (flat3 _ _ _), h3, h2]
    rfl
  | j + 1, i, hij, k + 1, hk => by
    have hi : i < s.length := by omega
    rw [loopL_succ, hH.head (flat3 _ _ _), body77 hH k0 s s.length i s[i] (by omega) (by omega) (List.getElem?_eq_getElem hi), List.drop_eq_getElem_cons hi, List.all_cons]
    cases labelC s[i] with
    | true => simp only [if_true, Bool.true_and]; exact loop77 k0 s hs j (i + 1) (by omega) k (by omega)
    | false => simp only [Bool.false_eq_true, if_false, Bool.false_and]
def label (s : List UInt8) : Bool := s.all labelC && !decide (s = []) && decide ((s.length : Int) ≤ 63) && !(s.head? == some 45) && !(s.getLast? == some 45)
theorem T77 (s : List UInt8) (hs : s.length ≤ 9000000000000000000) : T 77 [.str s] H = some (.bool (label s), H) := by
  refine evT_of (k := s.length + 1) (F := l77) (H' := H) (e := [.bool (label s)]) (l := [.bool (label s)]) rfl rfl rfl ?_ rfl (hH.fin rfl)
  have hl := loop77 hH (s.length + 1) s hs s.length 0 (by omega) (s.length + 1) (by omega)
  have h0 : evL T (s.length + 1) q77 [.str s] H = evJ T (s.length + 1) q77_2 (evB 0 (loopL H.length (evL T (s.length + 1) q77_1) (s.length + 1) [.str s, .int .i64 s.length, .int .i64 (0 : Nat)] H)) := rfl
  show evL T (s.length + 1) q77 [.str s] H = _
  rw [h0, hl, List.drop_zero]
  unfold label
  cases s.all labelC with
  | false => simp only [evL_op, evL_sel, evL_nx, evL_exit, evL_ret, evL_join, evL_block, evL_cond, evK_some, evJ_nx, evJ_rt, evJ_ex, evB_nx, evB_rt, evB_ex, evC2_bool, evS_and, evS_or, evS_tf, evS_ft, ev_t, ev_s, ev_c, evalOp, bin_add, bin_sub, bin_mul, bin_eql, bin_neq, bin_lss, bin_leq, bin_gtr, bin_geq, sbin_eql, sbin_neq, b8, List.map_cons, List.map_nil, PV.rens, PV.ren, if_true, if_false, Bool.false_eq_true, reduceIte, Bool.false_and]
  | true =>
    simp only [evL_op, evL_sel, evL_nx, evL_exit, evL_ret, evL_join, evL_block, evL_cond, evK_some, evJ_nx, evJ_rt, evJ_ex, evB_nx, evB_rt, evB_ex, evC2_bool, evS_and, evS_or, evS_tf, evS_ft, ev_t, ev_s, ev_c, evalOp, bin_add, bin_sub, bin_mul, bin_eql, bin_neq, bin_lss, bin_leq, bin_gtr, bin_geq, sbin_eql, sbin_neq, b8, List.map_cons, List.map_nil, PV.rens, PV.ren, if_true, if_false, Bool.false_eq_true, reduceIte, Bool.true_and]
    cases s with
    | nil => simp only [q77_2, evL_op, evL_sel, evL_nx, evL_exit, evL_ret, evL_join, evL_block, evL_cond, evK_some, evJ_nx, evJ_rt, evJ_ex, evB_nx, evB_rt, evB_ex, evC2_bool, evS_and, evS_or, evS_tf, evS_ft, ev_t, ev_s, ev_c, evalOp, bin_add, bin_sub, bin_mul, bin_eql, bin_neq, bin_lss, bin_leq, bin_gtr, bin_geq, sbin_eql, sbin_neq, b8, List.map_cons, List.map_nil, PV.rens, PV.ren, if_true, if_false, Bool.false_eq_true, reduceIte, decide_true, Bool.not_true, Bool.false_and]
    | cons a r =>
      have hidx : (a :: r)[Int.toNat 0]? = some a := rfl
      have h1 : (!decide ((a.toNat : Int) = 45)) = !(a == 45) := byte_ne a 45 (by omega)
      obtain ⟨z, hz⟩ : ∃ z, (a :: r).getLast? = some z := ⟨_, List.getLast?_eq_some_getLast (by simp)⟩
      have hz' : (a :: r)[(a :: r).length - 1]? = some z := by rw [← List.getLast?_eq_getElem?]; exact hz
      have h2 : (!decide ((z.toNat : Int) = 45)) = !(z == 45) := byte_ne z 45 (by omega)
      have hw : IntKind.i64.wrap (((a :: r).length : Int) - 1) = (((a :: r).length - 1 : Nat) : Int) := by
        rw [IntWalk.i64_in _ (by simp only [List.length_cons] at hs ⊢; omega)]; simp only [List.length_cons]; omega
      simp only [q77_2, evL_op, evL_sel, evL_nx, evL_exit, evL_ret, evL_join, evL_block, evL_cond, evK_some, evJ_nx, evJ_rt, evJ_ex, evB_nx, evB_rt, evB_ex, evC2_bool, evS_and, evS_or, evS_tf, evS_ft, ev_t, ev_s, ev_c, evalOp, bin_add, bin_sub, bin_mul, bin_eql, bin_neq, bin_lss, bin_leq, bin_gtr, bin_geq, sbin_eql, sbin_neq, b8, List.map_cons, List.map_nil, PV.rens, PV.ren, if_true, if_false, Bool.false_eq_true, reduceIte, decide_false, Bool.not_false, Int.le_refl, hidx, hw, Int.natCast_nonneg, Int.toNat_natCast, hz', h1, h2, reduceCtorEq, List.head?_cons, hz, Option.some_beq_some, Bool.true_and]

/-! ### atom -/
end
def signs : List UInt8 := [33, 35, 36, 37, 38, 39, 42, 43, 45, 47, 61, 63, 94, 95, 96, 123, 124, 125, 126]
def atomC (c : UInt8) : Bool := plain c || signs.contains c
theorem T76 (s : List UInt8) (c : UInt8) : T 76 [.str s, .int .u8 c.toNat] [] = some (.int .i64 (idxB s c), []) := by
  refine evT_ov (φ := ovIB) rfl ?_
  show some (PV.int .i64 (idxB s (c.toNat : Int).toNat.toUInt8), ([] : Hp)) = _
  rw [byte_back]
section
variable {H : Hp} (hH : Quiet H)
include hH
theorem body63 (k0 : Nat) (s : List UInt8) (n : Int) (i : Nat) (c : UInt8) (hn : (i : Int) < n) (hm : n ≤ 9000000000000000000) (hc : s[i]? = some c) : evL T k0 q63_1 [.str s, .int .i64 n, .int .i64 i] H =
    if atomC c = true then some (.nx, [.str s, .int .i64 n, .int .i64 (i + 1 : Nat)], H) else some (.rt, [.bool false], H) := by
  have hw : IntKind.i64.wrap ((i : Int) + 1) = ((i + 1 : Nat) : Int) := by rw [IntWalk.i64_in _ (by omega)]; rfl
  have h45 := T76 signs c
  unfold signs at h45
  simp only [q63_1, q63_0, evL_op, evL_sel, evL_nx, evL_exit, evL_ret, evL_join, evL_block, evL_cond, evK_some, evJ_nx, evJ_rt, evJ_ex, evB_nx, evB_rt, evB_ex, evC2_bool, evS_and, evS_or, evS_tf, evS_ft, ev_t, ev_s, ev_c, evalOp, bin_add, bin_sub, bin_mul, bin_eql, bin_neq, bin_lss, bin_leq, bin_gtr, bin_geq, sbin_eql, sbin_neq, b8, List.map_cons, List.map_nil, PV.rens, PV.ren, if_true, if_false, Bool.false_eq_true, reduceIte, hn, decide_true, Int.natCast_nonneg, Int.toNat_natCast, hc, T75, h45, idxB_neg]
  have : (!plain c && !(List.contains [33, 35, 36, 37, 38, 39, 42, 43, 45, 47, 61, 63, 94, 95, 96, 123, 124, 125, 126] c)) = !atomC c := by
    unfold atomC signs; rw [Bool.not_or]
  rw [this]
  cases atomC c with
  | true => simp only [evL_op, evL_sel, evL_nx, evL_exit, evL_ret, evL_join, evL_block, evL_cond, evK_some, evJ_nx, evJ_rt, evJ_ex, evB_nx, evB_rt, evB_ex, evC2_bool, evS_and, evS_or, evS_tf, evS_ft, ev_t, ev_s, ev_c, evalOp, bin_add, bin_sub, bin_mul, bin_eql, bin_neq, bin_lss, bin_leq, bin_gtr, bin_geq, sbin_eql, sbin_neq, b8, List.map_cons, List.map_nil, PV.rens, PV.ren, if_true, if_false, Bool.false_eq_true, reduceIte, Bool.not_true, hw]
  | false => simp only [evL_op, evL_sel, evL_nx, evL_exit, evL_ret, evL_join, evL_block, evL_cond, evK_some, evJ_nx, evJ_rt, evJ_ex, evB_nx, evB_rt, evB_ex, evC2_bool, evS_and, evS_or, evS_tf, evS_ft, ev_t, ev_s, ev_c, evalOp, bin_add, bin_sub, bin_mul, bin_eql, bin_neq, bin_lss, bin_leq, bin_gtr, bin_geq, sbin_eql, sbin_neq, b8, List.map_cons, List.map_nil, PV.rens, PV.ren, if_true, if_false, Bool.false_eq_true, reduceIte, Bool.not_false]
theorem loop63 (k0 : Nat) (s : List UInt8) (hs : s.length ≤ 9000000000000000000) : ∀ (j i : Nat), i + j = s.length → ∀ k, j < k → loopL H.length (evL T k0 q63_1) k [.str s, .int .i64 s.length, .int .i64 i] H =
    if (s.drop i).all atomC = true then some (.ex 0, [.str s], H) else some (.rt, [.bool false], H)
  | j, i, hij, 0, hk => by omega
  | 0, i, hij, k + 1, _ => by
    have h1 : ¬ ((i : Int) < s.length) := by omega
    have h2 : s.drop i = [] := List.drop_of_length_le (by omega)
    have h3 : evL T k0 q63_1 [.str s, .int .i64 s.length, .int .i64 i] H = some (.ex 0, [.str s], H) := by simp only [q63_1, evL_op, evL_sel, evL_nx, evL_exit, evL_ret, evL_join, evL_block, evL_cond, evK_some, evJ_nx, evJ_rt, evJ_ex, evB_nx, evB_rt, evB_ex, evC2_bool, evS_and, evS_or, evS_tf, evS_ft, ev_t, ev_s, ev_c, evalOp, bin_add, bin_sub, bin_mul, bin_eql, bin_neq, bin_lss, bin_leq, bin_gtr, bin_geq, sbin_eql, sbin_neq, b8, List.map_cons, List.map_nil, PV.rens, PV.ren, if_true, if_false, Bool.false_eq_true, reduceIte, h1, decide_false]
    rw [loopL_succ, hH.head (flat3 _ _ _), h3, h2]
    rfl
  | j + 1, i, hij, k + 1, hk => by
    have hi : i < s.length := by omega
    rw [loopL_succ, hH.head (flat3 _ _ _), body63 hH k0 s s.length i s[i] (by omega) (by omega) (List.getElem?_eq_getElem hi), List.drop_eq_getElem_cons hi, List.all_cons]
    cases atomC s[i] with
    | true => simp only [if_true, Bool.true_and]; exact loop63 k0 s hs j (i + 1) (by omega) k (by omega)
    | false => simp only [Bool.false_eq_true, if_false, Bool.false_and]
def atom (s : List UInt8) : Bool := s.all atomC && !decide (s = [])
theorem T63 (s : List UInt8) (hs : s.length ≤ 9000000000000000000) : T 63 [.str s] H = some (.bool (atom s), H) := by
  refine evT_of (k := s.length + 1) (F := l63) (H' := H) (e := [.bool (atom s)]) (l := [.bool (atom s)]) rfl rfl rfl ?_ rfl (hH.fin rfl)
  have hl := loop63 hH (s.length + 1) s hs s.length 0 (by omega) (s.length + 1) (by omega)
  have h0 : evL T (s.length + 1) q63 [.str s] H = evJ T (s.length + 1) q63_2 (evB 0 (loopL H.length (evL T (s.length + 1) q63_1) (s.length + 1) [.str s, .int .i64 s.length, .int .i64 (0 : Nat)] H)) := rfl
  show evL T (s.length + 1) q63 [.str s] H = _
  rw [h0, hl, List.drop_zero]
  unfold atom
  cases s.all atomC with
  | false => simp only [evL_op, evL_sel, evL_nx, evL_exit, evL_ret, evL_join, evL_block, evL_cond, evK_some, evJ_nx, evJ_rt, evJ_ex, evB_nx, evB_rt, evB_ex, evC2_bool, evS_and, evS_or, evS_tf, evS_ft, ev_t, ev_s, ev_c, evalOp, bin_add, bin_sub, bin_mul, bin_eql, bin_neq, bin_lss, bin_leq, bin_gtr, bin_geq, sbin_eql, sbin_neq, b8, List.map_cons, List.map_nil, PV.rens, PV.ren, if_true, if_false, Bool.false_eq_true, reduceIte, Bool.false_and]
  | true => simp only [q63_2, evL_op, evL_sel, evL_nx, evL_exit, evL_ret, evL_join, evL_block, evL_cond, evK_some, evJ_nx, evJ_rt, evJ_ex, evB_nx, evB_rt, evB_ex, evC2_bool, evS_and, evS_or, evS_tf, evS_ft, ev_t, ev_s, ev_c, evalOp, bin_add, bin_sub, bin_mul, bin_eql, bin_neq, bin_lss, bin_leq, bin_gtr, bin_geq, sbin_eql, sbin_neq, b8, List.map_cons, List.map_nil, PV.rens, PV.ren, if_true, if_false, Bool.false_eq_true, reduceIte, Bool.true_and]
end

/-! ### parts -/
theorem T74 (p : Nat) (s : List UInt8) (b : Bool) (h : T p [.str s] [.cells [.fn p []]] = some (.bool b, [.cells [.fn p []]])) : T 74 [.str s, .ptr 0 0] [.cells [.fn p []]] = some (.bool !b, [.cells [.fn p []]]) := by
  refine evT_of (k := 0) (F := l74) (H' := [.cells [.fn p []]]) (e := [.bool !b]) (l := [.bool !b]) rfl rfl rfl ?_ rfl rfl
  simp only [l74, q74, evL_op, evL_sel, evL_nx, evL_exit, evL_ret, evL_join, evL_block, evL_cond, evK_some, evJ_nx, evJ_rt, evJ_ex, evB_nx, evB_rt, evB_ex, evC2_bool, evS_and, evS_or, evS_tf, evS_ft, ev_t, ev_s, ev_c, evalOp, bin_add, bin_sub, bin_mul, bin_eql, bin_neq, bin_lss, bin_leq, bin_gtr, bin_geq, sbin_eql, sbin_neq, b8, List.map_cons, List.map_nil, PV.rens, PV.ren, if_true, if_false, Bool.false_eq_true, reduceIte, List.getElem?_cons_zero, List.drop_zero, List.take_succ_cons, List.take_zero, PV.of?, List.length_cons, List.length_nil, List.append_nil, List.cons_append, List.nil_append, h]
theorem head82 (p : Nat) (n m i : Int) (l : Nat) (cs : List PV) : headS 1 [.sl .no 1 l cs, .fn 74 [.ptr 0 0], .int .i64 n, .int .i64 i] [.cells [.fn p []]] = ([.sl .no 1 l cs, .fn 74 [.ptr 0 0], .int .i64 n, .int .i64 i], [.cells [.fn p []]]) := rfl
theorem take1 {L : List (List UInt8)} {i : Nat} {s : List UInt8} (h : L[i]? = some s) : ((L.map PV.str).drop (i * 1)).take 1 = [PV.str s] := by
  have hi : i < L.length := (List.getElem?_eq_some_iff.1 h).1
  have e : L[i] = s := (List.getElem?_eq_some_iff.1 h).2
  rw [Nat.mul_one, ← List.map_drop, List.drop_eq_getElem_cons hi, List.map_cons, e]
  rfl
theorem body82 (k0 p : Nat) (L : List (List UInt8)) (n : Int) (i : Nat) (s : List UInt8) (b : Bool) (hs : L[i]? = some s) (hn : n = L.length) (hm : n ≤ 9000000000000000000) (h : T p [.str s] [.cells [.fn p []]] = some (.bool b, [.cells [.fn p []]])) :
    evL T k0 q82_1 [.sl .no 1 L.length (L.map PV.str), .fn 74 [.ptr 0 0], .int .i64 n, .int .i64 i] [.cells [.fn p []]] =
    if b = true then some (.nx, [.sl .no 1 L.length (L.map PV.str), .fn 74 [.ptr 0 0], .int .i64 n, .int .i64 (i + 1 : Nat)], [.cells [.fn p []]]) else some (.rt, [.int .i64 i], [.cells [.fn p []]]) := by
  have hi : i < L.length := (List.getElem?_eq_some_iff.1 hs).1
  have hw : IntKind.i64.wrap ((i : Int) + 1) = ((i + 1 : Nat) : Int) := by rw [IntWalk.i64_in _ (by omega)]; rfl
  have h1 : (i : Int) < L.length := by omega
  have h43 := T74 p s b h
  subst hn
  simp only [q82_1, q82_0, evL_op, evL_sel, evL_nx, evL_exit, evL_ret, evL_join, evL_block, evL_cond, evK_some, evJ_nx, evJ_rt, evJ_ex, evB_nx, evB_rt, evB_ex, evC2_bool, evS_and, evS_or, evS_tf, evS_ft, ev_t, ev_s, ev_c, evalOp, bin_add, bin_sub, bin_mul, bin_eql, bin_neq, bin_lss, bin_leq, bin_gtr, bin_geq, sbin_eql, sbin_neq, b8, List.map_cons, List.map_nil, PV.rens, PV.ren, if_true, if_false, Bool.false_eq_true, reduceIte, h1, decide_true, Int.natCast_nonneg, Int.toNat_natCast, take1 hs, and_self, PV.of?, List.drop_zero, List.take_succ_cons, List.take_zero, List.length_cons, List.length_nil, List.cons_append, List.nil_append, h43]
  cases b with
  | true => simp only [evL_op, evL_sel, evL_nx, evL_exit, evL_ret, evL_join, evL_block, evL_cond, evK_some, evJ_nx, evJ_rt, evJ_ex, evB_nx, evB_rt, evB_ex, evC2_bool, evS_and, evS_or, evS_tf, evS_ft, ev_t, ev_s, ev_c, evalOp, bin_add, bin_sub, bin_mul, bin_eql, bin_neq, bin_lss, bin_leq, bin_gtr, bin_geq, sbin_eql, sbin_neq, b8, List.map_cons, List.map_nil, PV.rens, PV.ren, if_true, if_false, Bool.false_eq_true, reduceIte, Bool.not_true, hw]
  | false => simp only [evL_op, evL_sel, evL_nx, evL_exit, evL_ret, evL_join, evL_block, evL_cond, evK_some, evJ_nx, evJ_rt, evJ_ex, evB_nx, evB_rt, evB_ex, evC2_bool, evS_and, evS_or, evS_tf, evS_ft, ev_t, ev_s, ev_c, evalOp, bin_add, bin_sub, bin_mul, bin_eql, bin_neq, bin_lss, bin_leq, bin_gtr, bin_geq, sbin_eql, sbin_neq, b8, List.map_cons, List.map_nil, PV.rens, PV.ren, if_true, if_false, Bool.false_eq_true, reduceIte, Bool.not_false]
theorem loop82 (k0 p : Nat) (L : List (List UInt8)) (f : List UInt8 → Bool) (hl : L.length ≤ 9000000000000000000) (h : ∀ s ∈ L, T p [.str s] [.cells [.fn p []]] = some (.bool (f s), [.cells [.fn p []]])) : ∀ (j i : Nat), i + j = L.length → ∀ k, j < k →
    ((L.drop i).all f = true ∧ loopL 1 (evL T k0 q82_1) k [.sl .no 1 L.length (L.map PV.str), .fn 74 [.ptr 0 0], .int .i64 L.length, .int .i64 i] [.cells [.fn p []]] = some (.ex 0, [], [.cells [.fn p []]])) ∨
    ((L.drop i).all f = false ∧ ∃ z : Nat, loopL 1 (evL T k0 q82_1) k [.sl .no 1 L.length (L.map PV.str), .fn 74 [.ptr 0 0], .int .i64 L.length, .int .i64 i] [.cells [.fn p []]] = some (.rt, [.int .i64 z], [.cells [.fn p []]]))
  | j, i, hij, 0, hk => by omega
  | 0, i, hij, k + 1, _ => by
    have h1 : ¬ ((i : Int) < L.length) := by omega
    have h2 : L.drop i = [] := List.drop_of_length_le (by omega)
    have h3 : evL T k0 q82_1 [.sl .no 1 L.length (L.map PV.str), .fn 74 [.ptr 0 0], .int .i64 L.length, .int .i64 i] [.cells [.fn p []]] = some (.ex 0, [], [.cells [.fn p []]]) := by simp only [q82_1, evL_op, evL_sel, evL_nx, evL_exit, evL_ret, evL_join, evL_block, evL_cond, evK_some, evJ_nx, evJ_rt, evJ_ex, evB_nx, evB_rt, evB_ex, evC2_bool, evS_and, evS_or, evS_tf, evS_ft, ev_t, ev_s, ev_c, evalOp, bin_add, bin_sub, bin_mul, bin_eql, bin_neq, bin_lss, bin_leq, bin_gtr, bin_geq, sbin_eql, sbin_neq, b8, List.map_cons, List.map_nil, PV.rens, PV.ren, if_true, if_false, Bool.false_eq_true, reduceIte, h1, decide_false]
    refine .inl ⟨by rw [h2]; rfl, ?_⟩
    rw [loopL_succ, head82 p _ 0, h3]
  | j + 1, i, hij, k + 1, hk => by
    have hi : i < L.length := by omega
    have hb := body82 k0 p L L.length i L[i] (f L[i]) (List.getElem?_eq_getElem hi) rfl (by omega) (h _ (List.getElem_mem hi))
    rw [loopL_succ, head82 p _ 0, hb, List.drop_eq_getElem_cons hi, List.all_cons]
    cases f L[i] with
    | true => simp only [if_true, Bool.true_and]; exact loop82 k0 p L f hl h j (i + 1) (by omega) k (by omega)
    | false => exact .inr ⟨by simp, i, by simp only [Bool.false_eq_true, if_false]⟩
theorem T72 (p : Nat) (L : List (List UInt8)) (f : List UInt8 → Bool) (hl : L.length ≤ 9000000000000000000) (h : ∀ s ∈ L, T p [.str s] [.cells [.fn p []]] = some (.bool (f s), [.cells [.fn p []]])) :
    T 72 [.sl .no 1 L.length (L.map PV.str), .fn 74 [.ptr 0 0]] [.cells [.fn p []]] = some (.bool !(L.all f), [.cells [.fn p []]]) := by
  have h49 : ∃ z : Int, T 82 [.sl .no 1 L.length (L.map PV.str), .fn 74 [.ptr 0 0]] [.cells [.fn p []]] = some (.int .i64 z, [.cells [.fn p []]]) ∧ decide (0 ≤ z) = !(L.all f) := by
    have hlp := loop82 (L.length + 1) p L f hl h L.length 0 (by omega) (L.length + 1) (by omega)
    rw [List.drop_zero] at hlp
    have h0 : evL T (L.length + 1) q82 [.sl .no 1 L.length (L.map PV.str), .fn 74 [.ptr 0 0]] [.cells [.fn p []]] = evJ T (L.length + 1) q82_2 (evB 0 (loopL 1 (evL T (L.length + 1) q82_1) (L.length + 1) [.sl .no 1 L.length (L.map PV.str), .fn 74 [.ptr 0 0], .int .i64 L.length, .int .i64 (0 : Nat)] [.cells [.fn p []]])) := rfl
    rcases hlp with ⟨h1, h2⟩ | ⟨h1, z, h2⟩
    · refine ⟨-1, evT_of (k := L.length + 1) (F := l82) (H' := [.cells [.fn p []]]) (e := [.int .i64 (-1)]) (l := [.int .i64 (-1)]) rfl rfl rfl ?_ rfl rfl, by rw [h1]; rfl⟩
      show evL T (L.length + 1) q82 _ _ = _
      rw [h0, h2]
      rfl
    · refine ⟨z, evT_of (k := L.length + 1) (F := l82) (H' := [.cells [.fn p []]]) (e := [.int .i64 z]) (l := [.int .i64 z]) rfl rfl rfl ?_ rfl rfl, by rw [h1]; simp⟩
      show evL T (L.length + 1) q82 _ _ = _
      rw [h0, h2]
      rfl
  obtain ⟨z, h1, h2⟩ := h49
  refine evT_of (k := 0) (F := l72) (H' := [.cells [.fn p []]]) (e := [.bool !(L.all f)]) (l := [.bool !(L.all f)]) rfl rfl rfl ?_ rfl rfl
  simp only [l72, q72, evL_op, evL_sel, evL_nx, evL_exit, evL_ret, evL_join, evL_block, evL_cond, evK_some, evJ_nx, evJ_rt, evJ_ex, evB_nx, evB_rt, evB_ex, evC2_bool, evS_and, evS_or, evS_tf, evS_ft, ev_t, ev_s, ev_c, evalOp, bin_add, bin_sub, bin_mul, bin_eql, bin_neq, bin_lss, bin_leq, bin_gtr, bin_geq, sbin_eql, sbin_neq, b8, List.map_cons, List.map_nil, PV.rens, PV.ren, if_true, if_false, Bool.false_eq_true, reduceIte, h1, h2]
theorem T73 (s : List UInt8) (hs : s.length < 4294967281) : T 73 [.str s, .str [46]] [] = some (.sl .no 1 (splitBy 46 s).length ((splitBy 46 s).map PV.str), []) :=
  evT_ov (φ := ovSplit) rfl (by show (if s.length < 4294967281 then _ else none) = _; rw [if_pos hs])
theorem splitBy_le (c : UInt8) : ∀ (s x : List UInt8), x ∈ splitBy c s → x.length ≤ s.length
  | [], x, h => by simp [splitBy] at h; subst h; simp
  | b :: l, x, h => by
    unfold splitBy at h
    split at h
    · rcases List.mem_cons.1 h with rfl | h
      · simp
      · have := splitBy_le c l x h; simp; omega
    · split at h
      · simp at h; subst h; simp
      · rename_i y r hy
        rcases List.mem_cons.1 h with rfl | h
        · have := splitBy_le c l y (by rw [hy]; simp); simp; omega
        · have := splitBy_le c l x (by rw [hy]; simp [h]); simp; omega
theorem splitBy_len (c : UInt8) : ∀ s : List UInt8, (splitBy c s).length ≤ s.length + 1
  | [] => by simp [splitBy]
  | b :: l => by
    have := splitBy_len c l
    unfold splitBy
    split
    · simp; omega
    · split
      · simp
      · rename_i y r hy
        rw [hy] at this
        simp at this ⊢; omega
def parts (s : List UInt8) (m : Int) (f : List UInt8 → Bool) : Bool := decide ((s.length : Int) ≤ m) && (splitBy 46 s).all f
theorem T62 (p : Nat) (s : List UInt8) (m : Int) (f : List UInt8 → Bool) (hs : s.length < 4294967281) (h : ∀ x : List UInt8, x.length ≤ 9000000000000000000 → T p [.str x] [.cells [.fn p []]] = some (.bool (f x), [.cells [.fn p []]])) :
    T 62 [.str s, .int .i64 m, .fn p []] [] = some (.bool (parts s m f), []) := by
  refine evT_of (k := 0) (F := l62) (H' := [.cells [.fn p []]]) (e := [.bool (parts s m f)]) (l := [.bool (parts s m f)]) rfl rfl rfl ?_ rfl rfl
  have h42 := T73 s hs
  have h41 := T72 p (splitBy 46 s) f (by have := splitBy_len 46 s; omega) (fun x hx => h x (by have := splitBy_le 46 s x hx; omega))
  simp only [l62, q62, evL_op, evL_sel, evL_nx, evL_exit, evL_ret, evL_join, evL_block, evL_cond, evK_some, evJ_nx, evJ_rt, evJ_ex, evB_nx, evB_rt, evB_ex, evC2_bool, evS_and, evS_or, evS_tf, evS_ft, ev_t, ev_s, ev_c, evalOp, bin_add, bin_sub, bin_mul, bin_eql, bin_neq, bin_lss, bin_leq, bin_gtr, bin_geq, sbin_eql, sbin_neq, b8, List.map_cons, List.map_nil, PV.rens, PV.ren, if_true, if_false, Bool.false_eq_true, reduceIte, PV.cells?, PV.one, List.length_nil, List.nil_append, h42, Tk.ren, h41]
  simp only [parts, Bool.not_not]
theorem T64 (s : List UInt8) (hs : s.length < 4294967281) : T 64 [.str s] [] = some (.bool (parts s 255 label), []) := by
  refine evT_of (k := 0) (F := l64) (H' := []) (e := [.bool (parts s 255 label)]) (l := [.bool (parts s 255 label)]) rfl rfl rfl ?_ rfl rfl
  have h31 := T62 77 s 255 label hs (fun x hx => T77 (quiet_fn 77) x hx)
  simp only [l64, q64, evL_op, evL_sel, evL_nx, evL_exit, evL_ret, evL_join, evL_block, evL_cond, evK_some, evJ_nx, evJ_rt, evJ_ex, evB_nx, evB_rt, evB_ex, evC2_bool, evS_and, evS_or, evS_tf, evS_ft, ev_t, ev_s, ev_c, evalOp, bin_add, bin_sub, bin_mul, bin_eql, bin_neq, bin_lss, bin_leq, bin_gtr, bin_geq, sbin_eql, sbin_neq, b8, List.map_cons, List.map_nil, PV.rens, PV.ren, if_true, if_false, Bool.false_eq_true, reduceIte, h31]
/-- Is it a Path? -/
def pathOk (nul : Bool) (l d : List UInt8) : Bool := nul && decide (l ++ d = []) || (!nul && parts l 64 atom && parts d 255 label)
theorem T55 (nul : Bool) (l d : List UInt8) (hl : l.length + d.length < 4294967281) : T 55 [.agg [.bool nul, .str l, .str d]] [] = some (.int .i64 (if pathOk nul l d = true then 0 else 5), []) := by
  have h31 := T62 63 l 64 atom (by omega) (fun x hx => T63 (quiet_fn 63) x hx)
  have h14 := T64 d (by omega)
  refine evT_of (k := 0) (F := l55) (H' := [.cells [.bool nul, .str l, .str d]]) (e := [.int .i64 (if pathOk nul l d = true then 0 else 5)]) (l := [.int .i64 (if pathOk nul l d = true then 0 else 5)]) rfl rfl rfl ?_ rfl rfl
  have hadd := sbin_add (s := l) (u := d) (by omega)
  simp only [l55, q55, evL_op, evL_sel, evL_nx, evL_exit, evL_ret, evL_join, evL_block, evL_cond, evK_some, evJ_nx, evJ_rt, evJ_ex, evB_nx, evB_rt, evB_ex, evC2_bool, evS_and, evS_or, evS_tf, evS_ft, ev_t, ev_s, ev_c, evalOp, bin_add, bin_sub, bin_mul, bin_eql, bin_neq, bin_lss, bin_leq, bin_gtr, bin_geq, sbin_eql, sbin_neq, b8, List.map_cons, List.map_nil, PV.rens, PV.ren, if_true, if_false, Bool.false_eq_true, reduceIte, PV.cells?, List.all_cons, List.all_nil, PV.one, Bool.and_self, List.length_nil, List.nil_append, List.getElem?_cons_zero, Nat.zero_add, List.drop_zero, List.drop_succ_cons, List.take_succ_cons, List.take_zero, PV.of?, List.length_cons, hadd, h31, h14]
  have : (nul && decide (l ++ d = []) || !nul && parts l 64 atom && parts d 255 label) = pathOk nul l d := rfl
  rw [this]
  cases pathOk nul l d <;> rfl
abbrev D (s : List UInt8) : Bool := parts s 255 label
theorem split_ne (s : List UInt8) : splitBy 46 s ≠ [] := by
  cases s with
  | nil => simp [splitBy]
  | cons b l =>
    unfold splitBy
    split
    · simp
    · split <;> simp
theorem split_dot (b : List UInt8) : ∀ a : List UInt8, splitBy 46 (a ++ 46 :: b) = splitBy 46 a ++ splitBy 46 b
  | [] => by show splitBy 46 (46 :: b) = _; conv => lhs; unfold splitBy
             rw [if_pos rfl]; rfl
  | x :: a => by
    have ih := split_dot b a
    show splitBy 46 (x :: (a ++ 46 :: b)) = _
    conv => lhs; unfold splitBy
    conv => rhs; arg 1; unfold splitBy
    rw [ih]
    split
    · rfl
    · cases h : splitBy 46 a with
      | nil => exact absurd h (split_ne a)
      | cons y r => rfl
theorem split_cons (c : UInt8) (hc : c ≠ 46) (a : List UInt8) : ∃ y r, splitBy 46 a = y :: r ∧ splitBy 46 (c :: a) = (c :: y) :: r := by
  cases h : splitBy 46 a with
  | nil => exact absurd h (split_ne a)
  | cons y r => exact ⟨y, r, rfl, by unfold splitBy; rw [if_neg hc, h]⟩
theorem split_snoc (c : UInt8) (hc : c ≠ 46) : ∀ a : List UInt8, ∃ y, (y ++ [c]) ∈ splitBy 46 (a ++ [c])
  | [] => ⟨[], by show [c] ∈ splitBy 46 [c]; rw [splitBy_none (by simp; exact fun h => hc h.symm)]; simp⟩
  | x :: a => by
    obtain ⟨y, hy⟩ := split_snoc c hc a
    show ∃ y, y ++ [c] ∈ splitBy 46 (x :: (a ++ [c]))
    unfold splitBy
    split
    · exact ⟨y, List.mem_cons_of_mem _ hy⟩
    · cases h : splitBy 46 (a ++ [c]) with
      | nil => exact absurd h (split_ne _)
      | cons z r =>
        rw [h] at hy
        rcases List.mem_cons.1 hy with rfl | hy
        · exact ⟨x :: y, by simp⟩
        · exact ⟨y, List.mem_cons_of_mem _ hy⟩
theorem split_chars (P : UInt8 → Bool) : ∀ s : List UInt8, (splitBy 46 s).all (fun l => l.all P) = true → ∀ x ∈ s, P x = true ∨ x = 46
  | [], _, x, hx => by cases hx
  | b :: l, h, x, hx => by
    unfold splitBy at h
    by_cases hb : b = 46
    · rw [if_pos hb] at h
      rcases List.mem_cons.1 hx with rfl | hx
      · exact .inr hb
      · exact split_chars P l (by simpa using h) x hx
    · rw [if_neg hb] at h
      cases hs : splitBy 46 l with
      | nil => exact absurd hs (split_ne l)
      | cons y r =>
        rw [hs] at h
        simp only [List.all_cons, Bool.and_eq_true] at h
        rcases List.mem_cons.1 hx with rfl | hx
        · exact .inl h.1.1
        · exact split_chars P l (by rw [hs]; simp only [List.all_cons, Bool.and_eq_true]; exact ⟨h.1.2, h.2⟩) x hx
theorem label_chars {s : List UInt8} (h : label s = true) : s.all labelC = true := by
  unfold label at h
  simp only [Bool.and_eq_true] at h
  exact h.1.1.1.1
theorem wrap_len (n : Nat) (h : n ≤ 9000000000000000000) : IntKind.i64.wrap ((n : Int) - 1) = (n : Int) - 1 := IntWalk.i64_in _ (by omega)
/-- A text without its first sign. -/
def cutP (s : List UInt8) (c : UInt8) : List UInt8 × Bool := if s.head? = some c then (s.tail, true) else (s, false)
def cutS (s : List UInt8) (c : UInt8) : List UInt8 × Bool := if s.getLast? = some c then (s.dropLast, true) else (s, false)
def cutA (s : List UInt8) (c : UInt8) : List UInt8 × List UInt8 × Bool := if c ∈ s then (s.takeWhile (· != c), (s.dropWhile (· != c)).tail, true) else (s, [], false)
theorem T96 (s : List UInt8) (c : UInt8) : T 96 [.str s, .str [c]] [] = some (.int .i64 (idxB s c), []) := evT_ov (φ := ovI1) rfl rfl
theorem cutP_len (s : List UInt8) (c : UInt8) : (cutP s c).1.length ≤ s.length := by unfold cutP; split <;> simp
theorem cutS_len (s : List UInt8) (c : UInt8) : (cutS s c).1.length ≤ s.length := by unfold cutS; split <;> simp
theorem cutA_len (s : List UInt8) (c : UInt8) : (cutA s c).1.length + (cutA s c).2.1.length ≤ s.length := by
  unfold cutA
  split
  · rename_i h
    have e : s = s.takeWhile (· != c) ++ s.dropWhile (· != c) := (List.takeWhile_append_dropWhile).symm
    have h2 : s.length = (s.takeWhile (· != c)).length + (s.dropWhile (· != c)).length := by rw [← List.length_append, ← e]
    simp only [List.length_tail]; omega
  · simp
/-- What a text between brackets is. -/
def inner (s : List UInt8) : List UInt8 × List UInt8 := ((cutA (cutS (cutP s 60).1 62).1 64).1, (cutA (cutS (cutP s 60).1 62).1 64).2.1)
def innerOk (s : List UInt8) : Bool := (cutP s 60).2 && (cutS (cutP s 60).1 62).2 && (cutA (cutS (cutP s 60).1 62).1 64).2.2 && pathOk false (inner s).1 (inner s).2
abbrev pathV (n : Bool) (l d : List UInt8) : PV := .agg [.bool n, .str l, .str d]
def parseC (s : List UInt8) : List PV := if s = [60, 62] then [.bool true, .str [], .str []] else if innerOk s = true then [.bool false, .str (inner s).1, .str (inner s).2] else [.bool false, .str [], .str []]
def parseV (s : List UInt8) : PV := .agg (parseC s)
theorem parseC_len (s : List UInt8) : (parseC s).length = 3 := by unfold parseC; split <;> (try split) <;> rfl
def parseOk (s : List UInt8) : Bool := decide (s = [60, 62]) || innerOk s
def textOf (n : Bool) (l d : List UInt8) : List UInt8 := if n = true then [60, 62] else 60 :: (l ++ 64 :: (d ++ [62]))
theorem T31 (n m : Bool) (l d k e : List UInt8) : T 31 [pathV n l d, pathV m k e] [] = some (.bool (n == m && decide (l = k) && decide (d = e)), []) := by
  refine evT_of (k := 0) (F := l31) (H' := [.cells [.bool n, .str l, .str d], .cells [.bool m, .str k, .str e]]) (e := [.bool (n == m && decide (l = k) && decide (d = e))]) (l := [.bool (n == m && decide (l = k) && decide (d = e))]) rfl rfl rfl ?_ rfl rfl
  show evL T 0 q31 _ _ = _
  simp only [q31, evL_op, evL_sel, evL_nx, evL_exit, evL_ret, evL_join, evL_block, evL_cond, evK_some, evJ_nx, evJ_rt, evJ_ex, evB_nx, evB_rt, evB_ex, evC2_bool, evS_and, evS_or, evS_tf, evS_ft, ev_t, ev_s, ev_c, evalOp, bin_add, bin_sub, bin_mul, bin_eql, bin_neq, bin_lss, bin_leq, bin_gtr, bin_geq, sbin_eql, sbin_neq, b8, List.map_cons, List.map_nil, PV.rens, PV.ren, if_true, if_false, Bool.false_eq_true, reduceIte, Nat.reduceAdd, Nat.reduceSub, Nat.reduceMul, Nat.reduceEqDiff, Nat.reduceLeDiff, Int.reduceLE, Int.reduceLT, Int.reduceEq, Int.reduceToNat, Int.reduceAdd, Int.reduceSub, Int.reduceNeg, decide_true, decide_false, Bool.not_true, Bool.not_false, Bool.true_and, Bool.false_and, Bool.and_true, Bool.and_false, Bool.or_true, Bool.true_or, Bool.or_false, Bool.false_or, and_self, and_true, true_and, Nat.le_refl, Nat.zero_add, Nat.mul_one, Nat.one_ne_zero, Nat.zero_le, highP, lowP, Option.map_some, Option.map_none, List.drop_zero, List.take_zero, List.length_cons, List.length_nil, List.nil_append, List.append_nil, List.cons_append, fillP, PV.cells?, PV.one, PV.cleans, PV.clean, PV.of?, List.all_cons, List.all_nil, List.take_succ_cons, List.drop_succ_cons, Bool.and_self, Int.natCast_nonneg, Int.toNat_natCast, Int.toNat_zero, List.getElem?_cons_zero, List.getElem?_cons_succ, Bool.false_bne, Bool.bne_false, Bool.xor_false, Bool.false_xor]
end Go.Proofs.YtnljpfjoboafoaaDoor.Tab

namespace Go.Proofs.YtnljpfjoboafoaaDoor.Tab
set_option linter.all false
open Go Go.RowKit Go.Proofs.YtnljpfjoboafoaaDoor.Ev
/-! ### the law -/
abbrev nl : List UInt8 := [13, 10]
abbrev nlP : PV := .sl .no 1 2 [.int .u8 13, .int .u8 10]
def NC (l : List UInt8) : Prop := ∀ r, Lib.index (l ++ 13 :: 10 :: r) nl = l.length
def Cl (l : List UInt8) : Prop := ∀ x ∈ l, x ≠ 13 ∧ x ≠ 10
theorem Cl.nil : Cl [] := fun _ h => by cases h
theorem Cl.tail {x : UInt8} {l : List UInt8} (h : Cl (x :: l)) : Cl l := fun y hy => h y (List.mem_cons_of_mem _ hy)
theorem Cl.head {x : UInt8} {l : List UInt8} (h : Cl (x :: l)) : x ≠ 13 ∧ x ≠ 10 := h x List.mem_cons_self
theorem Cl.app {a b : List UInt8} (h : Cl a) (k : Cl b) : Cl (a ++ b) := fun x hx => (List.mem_append.1 hx).elim (h x) (k x)
theorem idx_cons (b : UInt8) (l s : List UInt8) : Lib.index (b :: l) s = if s.isPrefixOf (b :: l) = true then 0 else if Lib.index l s = -1 then -1 else Lib.index l s + 1 := by
  conv => lhs; unfold Lib.index
  by_cases h : s.isPrefixOf (b :: l) = true
  · rw [if_pos h, if_pos h]
  · rw [if_neg h, if_neg h]
    by_cases h2 : Lib.index l s = -1
    · rw [if_pos (by simpa using h2), if_pos h2]
    · rw [if_neg (by simpa using h2), if_neg h2]
theorem pre_nl (b : UInt8) (l : List UInt8) : nl.isPrefixOf (b :: l) = (b == 13 && l.head? == some 10) := by
  cases l with
  | nil => simp [List.isPrefixOf]
  | cons c r =>
    simp only [nl, List.isPrefixOf, List.head?_cons, Bool.and_true]
    rw [show ((13 : UInt8) == b) = (b == 13) from BEq.comm, show ((10 : UInt8) == c) = (c == 10) from BEq.comm]
    congr 1
theorem Cl.nc : ∀ {l : List UInt8}, Cl l → NC l
  | [], _, r => by
    show Lib.index (13 :: 10 :: r) nl = 0
    rw [idx_cons, pre_nl, if_pos (by rfl)]
  | x :: l, h, r => by
    have ih := Cl.nc h.tail r
    show Lib.index (x :: (l ++ 13 :: 10 :: r)) nl = _
    rw [idx_cons, pre_nl, if_neg (by simp [h.head.1]), ih, if_neg (by omega), List.length_cons]
    omega
theorem idx_split : ∀ b : List UInt8, Lib.index b nl = -1 ∨ ∃ a r, b = a ++ 13 :: 10 :: r ∧ Lib.index b nl = a.length ∧ NC a
  | [] => .inl rfl
  | x :: l => by
    rw [idx_cons]
    by_cases h : nl.isPrefixOf (x :: l) = true
    · rw [if_pos h]
      rw [pre_nl] at h
      simp only [Bool.and_eq_true, beq_iff_eq] at h
      cases l with
      | nil => simp at h
      | cons y r =>
        simp at h
        obtain ⟨rfl, rfl⟩ := h
        exact .inr ⟨[], r, rfl, rfl, Cl.nc Cl.nil⟩
    · rw [if_neg h]
      rcases idx_split l with h1 | ⟨a, r, h1, h2, h3⟩
      · rw [h1]; exact .inl rfl
      · rw [h2, if_neg (by omega)]
        refine .inr ⟨x :: a, r, by rw [h1]; rfl, by simp, fun r' => ?_⟩
        show Lib.index (x :: (a ++ 13 :: 10 :: r')) nl = _
        have hx : ¬ nl.isPrefixOf (x :: (a ++ 13 :: 10 :: r')) = true := by
          rw [pre_nl] at h ⊢
          subst h1
          cases a with
          | nil => simpa using h
          | cons y a => simpa using h
        rw [idx_cons, if_neg hx, h3 r', if_neg (by omega), List.length_cons]
        omega
def linesN : Nat → List UInt8 → List (List UInt8)
  | 0, _ => []
  | k + 1, b => if Lib.index b nl < 0 then [] else b.take (Lib.index b nl).toNat :: linesN k (b.drop ((Lib.index b nl).toNat + 2))
/-- What stands ahead of each line's end. -/
def lines (b : List UInt8) : List (List UInt8) := linesN (b.length + 1) b
theorem linesN_no {b : List UInt8} (h : Lib.index b nl = -1) : ∀ k, linesN k b = []
  | 0 => rfl
  | k + 1 => by unfold linesN; rw [if_pos (by omega)]
theorem linesN_cons {a : List UInt8} (h : NC a) (r : List UInt8) (k : Nat) : linesN (k + 1) (a ++ 13 :: 10 :: r) = a :: linesN k r := by
  conv => lhs; unfold linesN
  rw [h r, if_neg (by omega), Int.toNat_natCast, List.take_left, List.drop_append, List.drop_of_length_le (by omega)]
  simp
theorem linesN_le : ∀ (n : Nat) (b : List UInt8), b.length ≤ n → ∀ k, b.length ≤ k → linesN (k + 1) b = linesN (b.length + 1) b
  | 0, b, hn, k, hk => by
    obtain rfl : b = [] := List.eq_nil_of_length_eq_zero (by omega)
    rw [linesN_no rfl, linesN_no rfl]
  | n + 1, b, hn, k, hk => by
    rcases idx_split b with h | ⟨a, r, rfl, _, h⟩
    · rw [linesN_no h, linesN_no h]
    · simp only [List.length_append, List.length_cons] at hn hk ⊢
      rw [linesN_cons h, linesN_cons h]
      obtain ⟨k, rfl⟩ : ∃ k', k = k' + 1 := ⟨k - 1, by omega⟩
      rw [linesN_le n r (by omega) k (by omega), show a.length + (r.length + 1 + 1) = (a.length + r.length + 1) + 1 by omega, linesN_le n r (by omega) (a.length + r.length + 1) (by omega)]
theorem lines_no {b : List UInt8} (h : Lib.index b nl = -1) : lines b = [] := linesN_no h _
theorem lines_cons {a : List UInt8} (h : NC a) (r : List UInt8) : lines (a ++ 13 :: 10 :: r) = a :: lines r := by
  unfold lines
  rw [linesN_cons h]
  congr 1
  rw [List.length_append, List.length_cons, List.length_cons, show a.length + (r.length + 1 + 1) = (a.length + r.length + 1) + 1 by omega]
  exact linesN_le r.length r (Nat.le_refl _) _ (by omega)
/-- Lines put together. -/
def join (ls : List (List UInt8)) : List UInt8 := (ls.map (· ++ [13, 10])).flatten
theorem join_nil : join [] = [] := rfl
theorem join_cons (l : List UInt8) (ls : List (List UInt8)) : join (l :: ls) = l ++ 13 :: 10 :: join ls := by simp [join]
theorem join_app (a b : List (List UInt8)) : join (a ++ b) = join a ++ join b := by simp [join]
theorem join_one (l : List UInt8) : join [l] = l ++ [13, 10] := by simp [join]
theorem lines_join_app (t : List UInt8) : ∀ ls : List (List UInt8), (∀ l ∈ ls, NC l) → lines (join ls ++ t) = ls ++ lines t
  | [], _ => rfl
  | l :: ls, h => by
    rw [join_cons, List.append_assoc]
    show lines (l ++ 13 :: 10 :: (join ls ++ t)) = _
    rw [lines_cons (h l List.mem_cons_self), lines_join_app t ls (fun x hx => h x (List.mem_cons_of_mem _ hx))]
    rfl
theorem lines_join {ls : List (List UInt8)} (h : ∀ l ∈ ls, Cl l) : lines (join ls) = ls := by
  have := lines_join_app [] ls (fun l hl => (h l hl).nc)
  rw [List.append_nil] at this
  rw [this, lines_no rfl, List.append_nil]
theorem join_inj {a b : List (List UInt8)} (ha : ∀ l ∈ a, Cl l) (hb : ∀ l ∈ b, Cl l) (h : join a = join b) : a = b := by
  rw [← lines_join ha, h, lines_join hb]
theorem lines_len : ∀ (n : Nat) (b : List UInt8), b.length ≤ n → (lines b).length ≤ b.length ∧ ∀ l ∈ lines b, l.length ≤ b.length
  | 0, b, hn => by
    obtain rfl : b = [] := List.eq_nil_of_length_eq_zero (by omega)
    rw [lines_no rfl]
    exact ⟨Nat.zero_le _, fun l h => by cases h⟩
  | n + 1, b, hn => by
    rcases idx_split b with h | ⟨a, r, rfl, _, h⟩
    · rw [lines_no h]
      exact ⟨Nat.zero_le _, fun l h => by cases h⟩
    · rw [lines_cons h]
      simp only [List.length_append, List.length_cons] at hn ⊢
      obtain ⟨h1, h2⟩ := lines_len n r (by omega)
      refine ⟨by omega, fun l hl => ?_⟩
      rcases List.mem_cons.1 hl with rfl | hl
      · omega
      · have := h2 l hl; omega
/-! ### what the functions tell -/
theorem T67 : T 67 [] [] = some (nlP, []) :=
  evT_of (k := 0) (F := l67) (H' := []) (e := [nlP]) (l := [nlP]) rfl rfl rfl rfl rfl rfl
theorem bytes8_map (l : List UInt8) : bytes8 (l.map b8) = some l := bytes8_b8 l
theorem T85 (l s : List UInt8) (hl : l.length < 4294967281) (h2 : 2 ≤ s.length) (h3 : s.length ≤ 1000000) (t t' : Tk) (z z' : Nat) : T 85 [.sl t z l.length (l.map b8), .sl t' z' s.length (s.map b8)] [] = some (.int .i64 (Lib.index l s), []) := by
  refine evT_ov (φ := ovBI) rfl ?_
  unfold ovBI
  simp only [bytes8_map]
  rw [if_pos ⟨trivial, trivial, hl, h2, h3⟩]
theorem T69 (l : List UInt8) (c : UInt8) (t : Tk) (z : Nat) : T 69 [.sl t z l.length (l.map b8), .int .u8 c.toNat] [] = some (.int .i64 (idxB l c), []) := by
  refine evT_ov (φ := ovBIB) rfl ?_
  unfold ovBIB
  simp only [bytes8_map]
  rw [if_pos trivial, byte_back]
theorem T42 (l : List UInt8) (h : l.length ≤ 140737488355328) (t : Tk) (z : Nat) : T 42 [.sl t z l.length (l.map b8)] [] = some (.sl (.tok 0) 1 l.length (l.map b8), [.tok]) := by
  refine evT_ov (φ := ovClone) rfl ?_
  unfold ovClone
  simp only [bytes8_map]
  rw [if_pos ⟨trivial, h⟩]
  rfl
theorem cut_yes (a r : List UInt8) (h : NC a) (hl : (a ++ 13 :: 10 :: r).length < 4294967281) : T 79 [sl8 (a ++ 13 :: 10 :: r), nlP] [] = some (.tup [sl8 a, sl8 r, .bool true], []) := by
  refine evT_of (k := 0) (F := l79) (H' := []) (e := [sl8 a, sl8 r, .bool true]) (l := [sl8 a, sl8 r, .bool true]) rfl rfl rfl ?_ rfl rfl
  show evL T 0 q79 _ _ = _
  have c1 : T 85 [sl8 (a ++ 13 :: 10 :: r), .sl .no 1 2 [.int .u8 13, .int .u8 10]] [] = _ := T85 (a ++ 13 :: 10 :: r) nl hl (by decide) (by decide) .no .no 1 1
  rw [h r] at c1
  have h1 : (0 : Int) ≤ a.length := by omega
  have hll : (a ++ 13 :: 10 :: r).length = a.length + (r.length + 2) := by simp
  have h2 : (a.length : Int) ≤ (a ++ 13 :: 10 :: r).length := by omega
  have w1 : IntKind.i64.wrap ((a.length : Int) + ((2 : Nat) : Int)) = ((a.length + 2 : Nat) : Int) := by rw [wr (by omega) (by omega)]; omega
  have h3 : ((a.length + 2 : Nat) : Int) ≤ (a ++ 13 :: 10 :: r).length := by omega
  have h4 : a.length + 2 ≤ (a ++ 13 :: 10 :: r).length := by omega
  have e1 : ((a ++ 13 :: 10 :: r).map b8).take a.length = a.map b8 := by rw [List.map_append, List.take_left' (by simp)]
  have e2 : ((a ++ 13 :: 10 :: r).map b8).drop (a.length + 2) = r.map b8 := by
    rw [← List.map_drop, List.drop_append, List.drop_of_length_le (by omega)]; simp
  have e3 : (a ++ 13 :: 10 :: r).length - (a.length + 2) = r.length := by omega
  have e4 : ((a ++ 13 :: 10 :: r).map b8).take (a ++ 13 :: 10 :: r).length = (a ++ 13 :: 10 :: r).map b8 := List.take_of_length_le (by simp)
  generalize (a ++ 13 :: 10 :: r) = b at *
  simp only [q79, evL_op, evL_sel, evL_nx, evL_exit, evL_ret, evL_join, evL_block, evL_cond, evK_some, evJ_nx, evJ_rt, evJ_ex, evB_nx, evB_rt, evB_ex, evC2_bool, evS_and, evS_or, evS_tf, evS_ft, ev_t, ev_s, ev_c, evalOp, bin_add, bin_sub, bin_mul, bin_eql, bin_neq, bin_lss, bin_leq, bin_gtr, bin_geq, sbin_eql, sbin_neq, b8, List.map_cons, List.map_nil, PV.rens, PV.ren, if_true, if_false, Bool.false_eq_true, reduceIte, Nat.reduceAdd, Nat.reduceSub, Nat.reduceMul, Nat.reduceEqDiff, Nat.reduceLeDiff, Int.reduceLE, Int.reduceLT, Int.reduceEq, Int.reduceToNat, Int.reduceAdd, Int.reduceSub, Int.reduceNeg, decide_true, decide_false, Bool.not_true, Bool.not_false, Bool.true_and, Bool.false_and, Bool.and_true, Bool.and_false, Bool.or_true, Bool.true_or, Bool.or_false, Bool.false_or, and_self, and_true, true_and, Nat.le_refl, Nat.zero_add, Nat.mul_one, Nat.one_ne_zero, Nat.zero_le, highP, lowP, Option.map_some, Option.map_none, List.drop_zero, List.take_zero, List.length_cons, List.length_nil, List.nil_append, List.append_nil, List.cons_append, fillP, PV.cells?, PV.one, PV.cleans, PV.clean, PV.of?, List.all_cons, List.all_nil, List.take_succ_cons, List.drop_succ_cons, Bool.and_self, Int.natCast_nonneg, Int.toNat_natCast, Int.toNat_zero, PV.rens, PV.ren, Tk.ren, c1, h1, h2, w1, h3, h4, e1, e2, e3, e4, Nat.sub_zero, or_true, Nat.zero_lt_one]
theorem cut_no (b : List UInt8) (h : Lib.index b nl = -1) (hl : b.length < 4294967281) : T 79 [sl8 b, nlP] [] = some (.tup [sl8 b, .sl .nil 0 0 [], .bool false], []) := by
  refine evT_of (k := 0) (F := l79) (H' := []) (e := [sl8 b, .sl .nil 0 0 [], .bool false]) (l := [sl8 b, .sl .nil 0 0 [], .bool false]) rfl rfl rfl ?_ rfl rfl
  show evL T 0 q79 _ _ = _
  have c1 : T 85 [sl8 b, .sl .no 1 2 [.int .u8 13, .int .u8 10]] [] = _ := T85 b nl hl (by decide) (by decide) .no .no 1 1
  rw [h] at c1
  have h1 : ¬ (0 : Int) ≤ -1 := by decide
  simp only [q79, evL_op, evL_sel, evL_nx, evL_exit, evL_ret, evL_join, evL_block, evL_cond, evK_some, evJ_nx, evJ_rt, evJ_ex, evB_nx, evB_rt, evB_ex, evC2_bool, evS_and, evS_or, evS_tf, evS_ft, ev_t, ev_s, ev_c, evalOp, bin_add, bin_sub, bin_mul, bin_eql, bin_neq, bin_lss, bin_leq, bin_gtr, bin_geq, sbin_eql, sbin_neq, b8, List.map_cons, List.map_nil, PV.rens, PV.ren, if_true, if_false, Bool.false_eq_true, reduceIte, Nat.reduceAdd, Nat.reduceSub, Nat.reduceMul, Nat.reduceEqDiff, Nat.reduceLeDiff, Int.reduceLE, Int.reduceLT, Int.reduceEq, Int.reduceToNat, Int.reduceAdd, Int.reduceSub, Int.reduceNeg, decide_true, decide_false, Bool.not_true, Bool.not_false, Bool.true_and, Bool.false_and, Bool.and_true, Bool.and_false, Bool.or_true, Bool.true_or, Bool.or_false, Bool.false_or, and_self, and_true, true_and, Nat.le_refl, Nat.zero_add, Nat.mul_one, Nat.one_ne_zero, Nat.zero_le, highP, lowP, Option.map_some, Option.map_none, List.drop_zero, List.take_zero, List.length_cons, List.length_nil, List.nil_append, List.append_nil, List.cons_append, fillP, PV.cells?, PV.one, PV.cleans, PV.clean, PV.of?, List.all_cons, List.all_nil, List.take_succ_cons, List.drop_succ_cons, Bool.and_self, Int.natCast_nonneg, Int.toNat_natCast, Int.toNat_zero, PV.rens, PV.ren, Tk.ren, c1, h1]
def accL (t : Tk) (D : List (List UInt8)) : PV := .sl t (if D = [] then 0 else 1) D.length (D.map fun l => sl8 l)
theorem accL_snoc (D : List (List UInt8)) (l : List UInt8) (t : Tk) : accL t (D ++ [l]) = .sl t 1 (D.length + 1) (D.map (fun l => sl8 l) ++ [sl8 l]) := by
  unfold accL
  rw [if_neg (by simp)]
  simp
theorem T68 (b : List UInt8) (hl : b.length ≤ 1000000000) : T 68 [sl8 b] [] = some (accL (.tok 0) (lines b), [.tok]) := by
  refine evT_of (k := b.length + 1) (F := l68) (H' := [.tok]) (e := [accL (.tok 0) (lines b)]) (l := [accL (.tok 0) (lines b)]) rfl rfl rfl ?_ rfl rfl
  show evL T (b.length + 1) q68 _ _ = _
  have lp := loop_law (n := 0) (body := evL T (b.length + 1) q68_1) (σ := List UInt8 × List (List UInt8)) (fun s => [sl8 s.1, accL (.tok 0) s.2]) (fun _ => [.tok]) (fun s => s.1.length)
    (fun s => s.1.length + s.2.length ≤ 1000000000) (fun s => (.rt, [accL (.tok 0) (s.2 ++ lines s.1)], [.tok])) (by
      rintro ⟨b, D⟩ hi
      dsimp only at hi ⊢
      rcases idx_split b with h | ⟨a, r, rfl, _, h⟩
      · refine .inl ⟨?_, by simp⟩
        have c1 := cut_no b h (by omega)
        rw [lines_no h, List.append_nil]
        simp only [q68_1, evL_op, evL_sel, evL_nx, evL_exit, evL_ret, evL_join, evL_block, evL_cond, evK_some, evJ_nx, evJ_rt, evJ_ex, evB_nx, evB_rt, evB_ex, evC2_bool, evS_and, evS_or, evS_tf, evS_ft, ev_t, ev_s, ev_c, evalOp, bin_add, bin_sub, bin_mul, bin_eql, bin_neq, bin_lss, bin_leq, bin_gtr, bin_geq, sbin_eql, sbin_neq, b8, List.map_cons, List.map_nil, PV.rens, PV.ren, if_true, if_false, Bool.false_eq_true, reduceIte, Nat.reduceAdd, Nat.reduceSub, Nat.reduceMul, Nat.reduceEqDiff, Nat.reduceLeDiff, Int.reduceLE, Int.reduceLT, Int.reduceEq, Int.reduceToNat, Int.reduceAdd, Int.reduceSub, Int.reduceNeg, decide_true, decide_false, Bool.not_true, Bool.not_false, Bool.true_and, Bool.false_and, Bool.and_true, Bool.and_false, Bool.or_true, Bool.true_or, Bool.or_false, Bool.false_or, and_self, and_true, true_and, Nat.le_refl, Nat.zero_add, Nat.mul_one, Nat.one_ne_zero, Nat.zero_le, highP, lowP, Option.map_some, Option.map_none, List.drop_zero, List.take_zero, List.length_cons, List.length_nil, List.nil_append, List.append_nil, List.cons_append, fillP, PV.cells?, PV.one, PV.cleans, PV.clean, PV.of?, List.all_cons, List.all_nil, List.take_succ_cons, List.drop_succ_cons, Bool.and_self, Int.natCast_nonneg, Int.toNat_natCast, Int.toNat_zero, PV.rens, PV.ren, Tk.ren, T67, c1, List.getElem?_cons_zero, List.getElem?_cons_succ]
      · refine .inr ⟨(r, D ++ [a]), ?_⟩
        apply Exists.intro
        apply Exists.intro
        simp only [List.length_append, List.length_cons] at hi
        refine ⟨?_, ?_, ?_, ?_, ?_⟩
        · have c1 := cut_yes a r h (by simp; omega)
          have c2 := T42 a (by omega) .no 1
          have hr : (D.length + 1) * 24 ≤ roomMax := by unfold roomMax; omega
          have hz : ((if D = [] then 0 else 1) = 1 ∨ (if D = [] then 0 else 1) = 0) := by split <;> simp
          simp only [q68_1, q68_0, evL_op, evL_sel, evL_nx, evL_exit, evL_ret, evL_join, evL_block, evL_cond, evK_some, evJ_nx, evJ_rt, evJ_ex, evB_nx, evB_rt, evB_ex, evC2_bool, evS_and, evS_or, evS_tf, evS_ft, ev_t, ev_s, ev_c, evalOp, bin_add, bin_sub, bin_mul, bin_eql, bin_neq, bin_lss, bin_leq, bin_gtr, bin_geq, sbin_eql, sbin_neq, b8, List.map_cons, List.map_nil, PV.rens, PV.ren, if_true, if_false, Bool.false_eq_true, reduceIte, Nat.reduceAdd, Nat.reduceSub, Nat.reduceMul, Nat.reduceEqDiff, Nat.reduceLeDiff, Int.reduceLE, Int.reduceLT, Int.reduceEq, Int.reduceToNat, Int.reduceAdd, Int.reduceSub, Int.reduceNeg, decide_true, decide_false, Bool.not_true, Bool.not_false, Bool.true_and, Bool.false_and, Bool.and_true, Bool.and_false, Bool.or_true, Bool.true_or, Bool.or_false, Bool.false_or, and_self, and_true, true_and, Nat.le_refl, Nat.zero_add, Nat.mul_one, Nat.one_ne_zero, Nat.zero_le, highP, lowP, Option.map_some, Option.map_none, List.drop_zero, List.take_zero, List.length_cons, List.length_nil, List.nil_append, List.append_nil, List.cons_append, fillP, PV.cells?, PV.one, PV.cleans, PV.clean, PV.of?, List.all_cons, List.all_nil, List.take_succ_cons, List.drop_succ_cons, Bool.and_self, Int.natCast_nonneg, Int.toNat_natCast, Int.toNat_zero, PV.rens, PV.ren, Tk.ren, T67, c1, c2, accL, tailP, hr, hz, or_true, List.getElem?_cons_zero, List.getElem?_cons_succ, List.set_cons_zero]
          rfl
        · rw [accL_snoc]
          rfl
        · simp only [List.length_append, List.length_cons, List.length_nil]; omega
        · simp; omega
        · rw [lines_cons h]; simp)
    (b.length + 1) (b, []) [sl8 b, .sl .nil 0 0 []] [] rfl (by simpa using hl) (by simp)
  simp only [q68, evL_op, evL_sel, evL_nx, evL_exit, evL_ret, evL_join, evL_block, evL_cond, evK_some, evJ_nx, evJ_rt, evJ_ex, evB_nx, evB_rt, evB_ex, evC2_bool, evS_and, evS_or, evS_tf, evS_ft, ev_t, ev_s, ev_c, evalOp, bin_add, bin_sub, bin_mul, bin_eql, bin_neq, bin_lss, bin_leq, bin_gtr, bin_geq, sbin_eql, sbin_neq, b8, List.map_cons, List.map_nil, PV.rens, PV.ren, if_true, if_false, Bool.false_eq_true, reduceIte, Nat.reduceAdd, Nat.reduceSub, Nat.reduceMul, Nat.reduceEqDiff, Nat.reduceLeDiff, Int.reduceLE, Int.reduceLT, Int.reduceEq, Int.reduceToNat, Int.reduceAdd, Int.reduceSub, Int.reduceNeg, decide_true, decide_false, Bool.not_true, Bool.not_false, Bool.true_and, Bool.false_and, Bool.and_true, Bool.and_false, Bool.or_true, Bool.true_or, Bool.or_false, Bool.false_or, and_self, and_true, true_and, Nat.le_refl, Nat.zero_add, Nat.mul_one, Nat.one_ne_zero, Nat.zero_le, highP, lowP, Option.map_some, Option.map_none, List.drop_zero, List.take_zero, List.length_cons, List.length_nil, List.nil_append, List.append_nil, List.cons_append, fillP, PV.cells?, PV.one, PV.cleans, PV.clean, PV.of?, List.all_cons, List.all_nil, List.take_succ_cons, List.drop_succ_cons, Bool.and_self, Int.natCast_nonneg, Int.toNat_natCast, Int.toNat_zero, evL_loop, List.nil_append] at lp ⊢
  rw [lp]
  simp only [evL_op, evL_sel, evL_nx, evL_exit, evL_ret, evL_join, evL_block, evL_cond, evK_some, evJ_nx, evJ_rt, evJ_ex, evB_nx, evB_rt, evB_ex, evC2_bool, evS_and, evS_or, evS_tf, evS_ft, ev_t, ev_s, ev_c, evalOp, bin_add, bin_sub, bin_mul, bin_eql, bin_neq, bin_lss, bin_leq, bin_gtr, bin_geq, sbin_eql, sbin_neq, b8, List.map_cons, List.map_nil, PV.rens, PV.ren, if_true, if_false, Bool.false_eq_true, reduceIte, Nat.reduceAdd, Nat.reduceSub, Nat.reduceMul, Nat.reduceEqDiff, Nat.reduceLeDiff, Int.reduceLE, Int.reduceLT, Int.reduceEq, Int.reduceToNat, Int.reduceAdd, Int.reduceSub, Int.reduceNeg, decide_true, decide_false, Bool.not_true, Bool.not_false, Bool.true_and, Bool.false_and, Bool.and_true, Bool.and_false, Bool.or_true, Bool.true_or, Bool.or_false, Bool.false_or, and_self, and_true, true_and, Nat.le_refl, Nat.zero_add, Nat.mul_one, Nat.one_ne_zero, Nat.zero_le, highP, lowP, Option.map_some, Option.map_none, List.drop_zero, List.take_zero, List.length_cons, List.length_nil, List.nil_append, List.append_nil, List.cons_append, fillP, PV.cells?, PV.one, PV.cleans, PV.clean, PV.of?, List.all_cons, List.all_nil, List.take_succ_cons, List.drop_succ_cons, Bool.and_self, Int.natCast_nonneg, Int.toNat_natCast, Int.toNat_zero]
end Go.Proofs.YtnljpfjoboafoaaDoor.Tab

namespace Go.Proofs.YtnljpfjoboafoaaDoor.Tab
set_option linter.all false
open Go Go.RowKit Go.Proofs.YtnljpfjoboafoaaDoor.Ev
theorem b2s_if {l : List UInt8} {H : Hp} : (if l.length = 0 then some (PV.str [], H) else some (PV.str l, H)) = some (PV.str l, H) := by
  split
  · rename_i h; rw [List.eq_nil_of_length_eq_zero h]
  · rfl
theorem T_equal8 (a b : List UInt8) : T 78 [sl8 a, sl8 b] [] = some (.bool (decide (a = b)), []) := by
  refine evT_of (k := 0) (F := l78) (H' := []) (e := [.bool (decide (a = b))]) (l := [.bool (decide (a = b))]) rfl rfl rfl ?_ rfl rfl
  show evL T 0 q78 _ _ = _
  simp only [q78, evL_op, evL_sel, evL_nx, evL_exit, evL_ret, evL_join, evL_block, evL_cond, evK_some, evJ_nx, evJ_rt, evJ_ex, evB_nx, evB_rt, evB_ex, evC2_bool, evS_and, evS_or, evS_tf, evS_ft, ev_t, ev_s, ev_c, evalOp, bin_add, bin_sub, bin_mul, bin_eql, bin_neq, bin_lss, bin_leq, bin_gtr, bin_geq, sbin_eql, sbin_neq, b8, List.map_cons, List.map_nil, PV.rens, PV.ren, if_true, if_false, Bool.false_eq_true, reduceIte, Nat.reduceAdd, Nat.reduceSub, Nat.reduceMul, Nat.reduceEqDiff, Nat.reduceLeDiff, Int.reduceLE, Int.reduceLT, Int.reduceEq, Int.reduceToNat, Int.reduceAdd, Int.reduceSub, Int.reduceNeg, decide_true, decide_false, Bool.not_true, Bool.not_false, Bool.true_and, Bool.false_and, Bool.and_true, Bool.and_false, Bool.or_true, Bool.true_or, Bool.or_false, Bool.false_or, and_self, and_true, true_and, Nat.le_refl, Nat.zero_add, Nat.mul_one, Nat.one_ne_zero, Nat.zero_le, highP, lowP, Option.map_some, Option.map_none, List.drop_zero, List.take_zero, List.length_cons, List.length_nil, List.nil_append, List.append_nil, List.cons_append, fillP, PV.cells?, PV.one, PV.cleans, PV.clean, PV.of?, List.all_cons, List.all_nil, List.take_succ_cons, List.drop_succ_cons, Bool.and_self, Int.natCast_nonneg, Int.toNat_natCast, Int.toNat_zero, bytes8_map, b2s_if]
theorem T78 {p q : PV} {a b : List UInt8} (hp : BS p a) (hq : BS q b) : T 78 [p, q] [] = some (.bool (decide (a = b)), []) := by
  have emp : ∀ t z, T 78 [.sl t z 0 [], sl8 b] [] = some (.bool (decide ([] = b)), []) := fun t z => by
    refine evT_of (k := 0) (F := l78) (H' := []) (e := [.bool (decide ([] = b))]) (l := [.bool (decide ([] = b))]) rfl rfl rfl ?_ rfl rfl
    show evL T 0 q78 _ _ = _
    simp only [q78, evL_op, evL_sel, evL_nx, evL_exit, evL_ret, evL_join, evL_block, evL_cond, evK_some, evJ_nx, evJ_rt, evJ_ex, evB_nx, evB_rt, evB_ex, evC2_bool, evS_and, evS_or, evS_tf, evS_ft, ev_t, ev_s, ev_c, evalOp, bin_add, bin_sub, bin_mul, bin_eql, bin_neq, bin_lss, bin_leq, bin_gtr, bin_geq, sbin_eql, sbin_neq, b8, List.map_cons, List.map_nil, PV.rens, PV.ren, if_true, if_false, Bool.false_eq_true, reduceIte, Nat.reduceAdd, Nat.reduceSub, Nat.reduceMul, Nat.reduceEqDiff, Nat.reduceLeDiff, Int.reduceLE, Int.reduceLT, Int.reduceEq, Int.reduceToNat, Int.reduceAdd, Int.reduceSub, Int.reduceNeg, decide_true, decide_false, Bool.not_true, Bool.not_false, Bool.true_and, Bool.false_and, Bool.and_true, Bool.and_false, Bool.or_true, Bool.true_or, Bool.or_false, Bool.false_or, and_self, and_true, true_and, Nat.le_refl, Nat.zero_add, Nat.mul_one, Nat.one_ne_zero, Nat.zero_le, highP, lowP, Option.map_some, Option.map_none, List.drop_zero, List.take_zero, List.length_cons, List.length_nil, List.nil_append, List.append_nil, List.cons_append, fillP, PV.cells?, PV.one, PV.cleans, PV.clean, PV.of?, List.all_cons, List.all_nil, List.take_succ_cons, List.drop_succ_cons, Bool.and_self, Int.natCast_nonneg, Int.toNat_natCast, Int.toNat_zero, bytes8_map, b2s_if]
  have emp2 : ∀ t z, T 78 [sl8 a, .sl t z 0 []] [] = some (.bool (decide (a = [])), []) := fun t z => by
    refine evT_of (k := 0) (F := l78) (H' := []) (e := [.bool (decide (a = []))]) (l := [.bool (decide (a = []))]) rfl rfl rfl ?_ rfl rfl
    show evL T 0 q78 _ _ = _
    simp only [q78, evL_op, evL_sel, evL_nx, evL_exit, evL_ret, evL_join, evL_block, evL_cond, evK_some, evJ_nx, evJ_rt, evJ_ex, evB_nx, evB_rt, evB_ex, evC2_bool, evS_and, evS_or, evS_tf, evS_ft, ev_t, ev_s, ev_c, evalOp, bin_add, bin_sub, bin_mul, bin_eql, bin_neq, bin_lss, bin_leq, bin_gtr, bin_geq, sbin_eql, sbin_neq, b8, List.map_cons, List.map_nil, PV.rens, PV.ren, if_true, if_false, Bool.false_eq_true, reduceIte, Nat.reduceAdd, Nat.reduceSub, Nat.reduceMul, Nat.reduceEqDiff, Nat.reduceLeDiff, Int.reduceLE, Int.reduceLT, Int.reduceEq, Int.reduceToNat, Int.reduceAdd, Int.reduceSub, Int.reduceNeg, decide_true, decide_false, Bool.not_true, Bool.not_false, Bool.true_and, Bool.false_and, Bool.and_true, Bool.and_false, Bool.or_true, Bool.true_or, Bool.or_false, Bool.false_or, and_self, and_true, true_and, Nat.le_refl, Nat.zero_add, Nat.mul_one, Nat.one_ne_zero, Nat.zero_le, highP, lowP, Option.map_some, Option.map_none, List.drop_zero, List.take_zero, List.length_cons, List.length_nil, List.nil_append, List.append_nil, List.cons_append, fillP, PV.cells?, PV.one, PV.cleans, PV.clean, PV.of?, List.all_cons, List.all_nil, List.take_succ_cons, List.drop_succ_cons, Bool.and_self, Int.natCast_nonneg, Int.toNat_natCast, Int.toNat_zero, bytes8_map, b2s_if]
  have emp3 : ∀ t z t' z', T 78 [.sl t z 0 [], .sl t' z' 0 []] [] = some (.bool true, []) := fun t z t' z' =>
    evT_of (k := 0) (F := l78) (H' := []) (e := [.bool true]) (l := [.bool true]) rfl rfl rfl rfl rfl rfl
  rcases hp.cases with rfl | ⟨rfl, t, z, rfl, _⟩ <;> rcases hq.cases with rfl | ⟨rfl, t', z', rfl, _⟩
  · exact T_equal8 a b
  · exact emp2 t' z'
  · exact emp t z
  · exact emp3 t z t' z'
/-- Does a text end with a line's end? -/
def hasNl (b : List UInt8) : Bool := decide ((2 : Int) ≤ b.length) && decide (b.drop (b.length - 2) = nl)
theorem T_suffix (b : List UInt8) (hl : b.length ≤ 9000000000000000000) : T 66 [sl8 b, .sl .no 1 2 [.int .u8 13, .int .u8 10]] [] = some (.bool (hasNl b), []) := by
  refine evT_of (k := 0) (F := l66) (H' := []) (e := [.bool (hasNl b)]) (l := [.bool (hasNl b)]) rfl rfl rfl ?_ rfl rfl
  show evL T 0 q66 _ _ = _
  unfold hasNl
  by_cases h : (2 : Int) ≤ b.length
  · have w1 : IntKind.i64.wrap ((b.length : Int) - 2) = ((b.length - 2 : Nat) : Int) := by rw [wr (by omega) (by omega)]; omega
    have h2 : b.length - 2 ≤ b.length := by omega
    have h3 : ((b.length - 2 : Nat) : Int) ≤ b.length := by omega
    have e1 : (b.map b8).take b.length = b.map b8 := List.take_of_length_le (by simp)
    have e2 : (b.map b8).drop (b.length - 2) = (b.drop (b.length - 2)).map b8 := by rw [List.map_drop]
    have e3 : b.length - (b.length - 2) = (b.drop (b.length - 2)).length := by rw [List.length_drop]
    have c1 : T 78 [sl8 (b.drop (b.length - 2)), .sl .no 1 2 [.int .u8 13, .int .u8 10]] [] = _ := T_equal8 (b.drop (b.length - 2)) nl
    have o2 : ((2 : Nat) : Int) = 2 := rfl
    simp only [q66, evL_op, evL_sel, evL_nx, evL_exit, evL_ret, evL_join, evL_block, evL_cond, evK_some, evJ_nx, evJ_rt, evJ_ex, evB_nx, evB_rt, evB_ex, evC2_bool, evS_and, evS_or, evS_tf, evS_ft, ev_t, ev_s, ev_c, evalOp, bin_add, bin_sub, bin_mul, bin_eql, bin_neq, bin_lss, bin_leq, bin_gtr, bin_geq, sbin_eql, sbin_neq, b8, List.map_cons, List.map_nil, PV.rens, PV.ren, if_true, if_false, Bool.false_eq_true, reduceIte, Nat.reduceAdd, Nat.reduceSub, Nat.reduceMul, Nat.reduceEqDiff, Nat.reduceLeDiff, Int.reduceLE, Int.reduceLT, Int.reduceEq, Int.reduceToNat, Int.reduceAdd, Int.reduceSub, Int.reduceNeg, decide_true, decide_false, Bool.not_true, Bool.not_false, Bool.true_and, Bool.false_and, Bool.and_true, Bool.and_false, Bool.or_true, Bool.true_or, Bool.or_false, Bool.false_or, and_self, and_true, true_and, Nat.le_refl, Nat.zero_add, Nat.mul_one, Nat.one_ne_zero, Nat.zero_le, highP, lowP, Option.map_some, Option.map_none, List.drop_zero, List.take_zero, List.length_cons, List.length_nil, List.nil_append, List.append_nil, List.cons_append, fillP, PV.cells?, PV.one, PV.cleans, PV.clean, PV.of?, List.all_cons, List.all_nil, List.take_succ_cons, List.drop_succ_cons, Bool.and_self, Int.natCast_nonneg, Int.toNat_natCast, Int.toNat_zero, PV.rens, PV.ren, Tk.ren, o2, h, w1, h2, h3, e1, e2, e3, c1, or_true, Nat.zero_lt_one]
  · have o2 : ((2 : Nat) : Int) = 2 := rfl
    simp only [q66, evL_op, evL_sel, evL_nx, evL_exit, evL_ret, evL_join, evL_block, evL_cond, evK_some, evJ_nx, evJ_rt, evJ_ex, evB_nx, evB_rt, evB_ex, evC2_bool, evS_and, evS_or, evS_tf, evS_ft, ev_t, ev_s, ev_c, evalOp, bin_add, bin_sub, bin_mul, bin_eql, bin_neq, bin_lss, bin_leq, bin_gtr, bin_geq, sbin_eql, sbin_neq, b8, List.map_cons, List.map_nil, PV.rens, PV.ren, if_true, if_false, Bool.false_eq_true, reduceIte, Nat.reduceAdd, Nat.reduceSub, Nat.reduceMul, Nat.reduceEqDiff, Nat.reduceLeDiff, Int.reduceLE, Int.reduceLT, Int.reduceEq, Int.reduceToNat, Int.reduceAdd, Int.reduceSub, Int.reduceNeg, decide_true, decide_false, Bool.not_true, Bool.not_false, Bool.true_and, Bool.false_and, Bool.and_true, Bool.and_false, Bool.or_true, Bool.true_or, Bool.or_false, Bool.false_or, and_self, and_true, true_and, Nat.le_refl, Nat.zero_add, Nat.mul_one, Nat.one_ne_zero, Nat.zero_le, highP, lowP, Option.map_some, Option.map_none, List.drop_zero, List.take_zero, List.length_cons, List.length_nil, List.nil_append, List.append_nil, List.cons_append, fillP, PV.cells?, PV.one, PV.cleans, PV.clean, PV.of?, List.all_cons, List.all_nil, List.take_succ_cons, List.drop_succ_cons, Bool.and_self, Int.natCast_nonneg, Int.toNat_natCast, Int.toNat_zero, o2, h]
def cleanB (l : List UInt8) : Bool := !l.contains 13 && !l.contains 10
theorem cleanB_iff {l : List UInt8} : cleanB l = true ↔ Cl l := by
  unfold cleanB Cl
  simp only [Bool.and_eq_true, Bool.not_eq_true', List.contains_eq_mem, decide_eq_false_iff_not]
  constructor
  · rintro ⟨h1, h2⟩ x hx
    exact ⟨fun e => h1 (e ▸ hx), fun e => h2 (e ▸ hx)⟩
  · intro h
    exact ⟨fun hx => (h _ hx).1 rfl, fun hx => (h _ hx).2 rfl⟩
/-- Is a text a body? -/
def body (b : List UInt8) : Bool := (decide (b = []) || hasNl b) && (lines b).all cleanB
theorem get_sl8 {L : List (List UInt8)} {i : Nat} (h : i < L.length) : ((L.map fun l => sl8 l).drop i).take 1 = [sl8 L[i]] := by
  rw [← List.map_drop, List.drop_eq_getElem_cons h, List.map_cons]; rfl
theorem get_sl8' {L : List (List UInt8)} {i : Nat} {l : List UInt8} (h : L[i]? = some l) : ((L.map fun l => sl8 l).drop i).take 1 = [sl8 l] := by
  obtain ⟨h1, h2⟩ := List.getElem?_eq_some_iff.1 h
  rw [get_sl8 h1, h2]
theorem accL_cons (t : Tk) {L : List (List UInt8)} (h : L ≠ []) : accL t L = .sl t 1 L.length (L.map fun l => sl8 l) := by unfold accL; rw [if_neg h]
theorem idxB_has (l : List UInt8) (c : UInt8) : decide ((0 : Int) ≤ idxB l c) = l.contains c := by
  have := idxB_neg l c
  rw [show l.contains c = !!l.contains c by simp, ← this]
  by_cases h : idxB l c < 0
  · rw [decide_eq_true h, decide_eq_false (by omega)]; rfl
  · rw [decide_eq_false h, decide_eq_true (by omega)]; rfl
theorem T57 (b : List UInt8) (hl : b.length ≤ 1000000000) : T 57 [sl8 b] [] = some (.int .i64 (if body b = true then 0 else 5), []) := by
  refine evT_of (k := b.length + 1) (F := l57) (H' := []) (e := [.int .i64 (if body b = true then 0 else 5)]) (l := [.int .i64 (if body b = true then 0 else 5)]) rfl rfl rfl ?_ rfl rfl
  show evL T (b.length + 1) q57 _ _ = _
  have c1 := T_suffix b (by omega)
  have c2 := T68 b hl
  have hb : (decide ((0 : Int) < b.length) && !hasNl b) = !(decide (b = []) || hasNl b) := by
    cases b with
    | nil => rfl
    | cons x l =>
      rw [decide_eq_true (by simp), decide_eq_false (by simp)]
      rfl
  by_cases h1 : (decide (b = []) || hasNl b) = true
  · have h2 : (decide ((0 : Int) < b.length) && !hasNl b) = false := by rw [hb, h1]; rfl
    have hlen := (lines_len b.length b (Nat.le_refl _)).1
    have hbd : body b = (lines b).all cleanB := by unfold body; rw [h1]; rfl
    rw [hbd]
    have hL := (lines_len b.length b (Nat.le_refl _)).2
    generalize lines b = L at *
    have lp := loop_law (n := 0) (body := evL T (b.length + 1) q57_1) (σ := Nat) (fun i => [accL .no L, .int .i64 L.length, .int .i64 i]) (fun _ => []) (fun i => L.length - i) (fun i => i ≤ L.length)
      (fun i => if (L.drop i).all cleanB = true then (.ex 0, [], []) else (.rt, [.int .i64 5], [])) (by
        intro i hi
        rcases Nat.lt_or_ge i L.length with h | h
        · have h3 : (i : Int) < L.length := by omega
          have hne : L ≠ [] := fun e => by rw [e] at h; cases h
          have hg := get_sl8 h
          have d1 : T 69 [sl8 L[i], .int .u8 13] [] = _ := T69 L[i] 13 .no 1
          have d2 : T 69 [sl8 L[i], .int .u8 10] [] = _ := T69 L[i] 10 .no 1
          have e1 := idxB_has L[i] 13
          have e2 := idxB_has L[i] 10
          rw [List.drop_eq_getElem_cons h, List.all_cons, accL_cons .no hne]
          by_cases hc : cleanB L[i] = true
          · rw [hc, Bool.true_and]
            refine .inr ⟨i + 1, ?_⟩
            apply Exists.intro
            apply Exists.intro
            refine ⟨?_, ?_, h, by omega, rfl⟩
            · unfold cleanB at hc
              simp only [Bool.and_eq_true, Bool.not_eq_true'] at hc
              simp only [q57_1, q57_0, evL_op, evL_sel, evL_nx, evL_exit, evL_ret, evL_join, evL_block, evL_cond, evK_some, evJ_nx, evJ_rt, evJ_ex, evB_nx, evB_rt, evB_ex, evC2_bool, evS_and, evS_or, evS_tf, evS_ft, ev_t, ev_s, ev_c, evalOp, bin_add, bin_sub, bin_mul, bin_eql, bin_neq, bin_lss, bin_leq, bin_gtr, bin_geq, sbin_eql, sbin_neq, b8, List.map_cons, List.map_nil, PV.rens, PV.ren, if_true, if_false, Bool.false_eq_true, reduceIte, Nat.reduceAdd, Nat.reduceSub, Nat.reduceMul, Nat.reduceEqDiff, Nat.reduceLeDiff, Int.reduceLE, Int.reduceLT, Int.reduceEq, Int.reduceToNat, Int.reduceAdd, Int.reduceSub, Int.reduceNeg, decide_true, decide_false, Bool.not_true, Bool.not_false, Bool.true_and, Bool.false_and, Bool.and_true, Bool.and_false, Bool.or_true, Bool.true_or, Bool.or_false, Bool.false_or, and_self, and_true, true_and, Nat.le_refl, Nat.zero_add, Nat.mul_one, Nat.one_ne_zero, Nat.zero_le, highP, lowP, Option.map_some, Option.map_none, List.drop_zero, List.take_zero, List.length_cons, List.length_nil, List.nil_append, List.append_nil, List.cons_append, fillP, PV.cells?, PV.one, PV.cleans, PV.clean, PV.of?, List.all_cons, List.all_nil, List.take_succ_cons, List.drop_succ_cons, Bool.and_self, Int.natCast_nonneg, Int.toNat_natCast, Int.toNat_zero, PV.rens, PV.ren, Tk.ren, h3, hg, d1, d2, e1, e2, hc.1, hc.2, wr1 (show i < 9223372036854775807 by omega)]
              rfl
            · rfl
          · have hc' : cleanB L[i] = false := by simpa using hc
            rw [hc', Bool.false_and]
            refine .inl ⟨?_, by simp⟩
            unfold cleanB at hc'
            cases hx : (L[i]).contains 13 with
            | true => simp only [q57_1, q57_0, evL_op, evL_sel, evL_nx, evL_exit, evL_ret, evL_join, evL_block, evL_cond, evK_some, evJ_nx, evJ_rt, evJ_ex, evB_nx, evB_rt, evB_ex, evC2_bool, evS_and, evS_or, evS_tf, evS_ft, ev_t, ev_s, ev_c, evalOp, bin_add, bin_sub, bin_mul, bin_eql, bin_neq, bin_lss, bin_leq, bin_gtr, bin_geq, sbin_eql, sbin_neq, b8, List.map_cons, List.map_nil, PV.rens, PV.ren, if_true, if_false, Bool.false_eq_true, reduceIte, Nat.reduceAdd, Nat.reduceSub, Nat.reduceMul, Nat.reduceEqDiff, Nat.reduceLeDiff, Int.reduceLE, Int.reduceLT, Int.reduceEq, Int.reduceToNat, Int.reduceAdd, Int.reduceSub, Int.reduceNeg, decide_true, decide_false, Bool.not_true, Bool.not_false, Bool.true_and, Bool.false_and, Bool.and_true, Bool.and_false, Bool.or_true, Bool.true_or, Bool.or_false, Bool.false_or, and_self, and_true, true_and, Nat.le_refl, Nat.zero_add, Nat.mul_one, Nat.one_ne_zero, Nat.zero_le, highP, lowP, Option.map_some, Option.map_none, List.drop_zero, List.take_zero, List.length_cons, List.length_nil, List.nil_append, List.append_nil, List.cons_append, fillP, PV.cells?, PV.one, PV.cleans, PV.clean, PV.of?, List.all_cons, List.all_nil, List.take_succ_cons, List.drop_succ_cons, Bool.and_self, Int.natCast_nonneg, Int.toNat_natCast, Int.toNat_zero, PV.rens, PV.ren, Tk.ren, h3, hg, d1, d2, e1, e2, hx]
            | false =>
              rw [hx] at hc'
              have hy : (L[i]).contains 10 = true := by simpa using hc'
              simp only [q57_1, q57_0, evL_op, evL_sel, evL_nx, evL_exit, evL_ret, evL_join, evL_block, evL_cond, evK_some, evJ_nx, evJ_rt, evJ_ex, evB_nx, evB_rt, evB_ex, evC2_bool, evS_and, evS_or, evS_tf, evS_ft, ev_t, ev_s, ev_c, evalOp, bin_add, bin_sub, bin_mul, bin_eql, bin_neq, bin_lss, bin_leq, bin_gtr, bin_geq, sbin_eql, sbin_neq, b8, List.map_cons, List.map_nil, PV.rens, PV.ren, if_true, if_false, Bool.false_eq_true, reduceIte, Nat.reduceAdd, Nat.reduceSub, Nat.reduceMul, Nat.reduceEqDiff, Nat.reduceLeDiff, Int.reduceLE, Int.reduceLT, Int.reduceEq, Int.reduceToNat, Int.reduceAdd, Int.reduceSub, Int.reduceNeg, decide_true, decide_false, Bool.not_true, Bool.not_false, Bool.true_and, Bool.false_and, Bool.and_true, Bool.and_false, Bool.or_true, Bool.true_or, Bool.or_false, Bool.false_or, and_self, and_true, true_and, Nat.le_refl, Nat.zero_add, Nat.mul_one, Nat.one_ne_zero, Nat.zero_le, highP, lowP, Option.map_some, Option.map_none, List.drop_zero, List.take_zero, List.length_cons, List.length_nil, List.nil_append, List.append_nil, List.cons_append, fillP, PV.cells?, PV.one, PV.cleans, PV.clean, PV.of?, List.all_cons, List.all_nil, List.take_succ_cons, List.drop_succ_cons, Bool.and_self, Int.natCast_nonneg, Int.toNat_natCast, Int.toNat_zero, PV.rens, PV.ren, Tk.ren, h3, hg, d1, d2, e1, e2, hx, hy]
        · refine .inl ?_
          have h3 : ¬ (i : Int) < L.length := by omega
          rw [List.drop_of_length_le h]
          refine ⟨?_, by simp⟩
          simp only [q57_1, evL_op, evL_sel, evL_nx, evL_exit, evL_ret, evL_join, evL_block, evL_cond, evK_some, evJ_nx, evJ_rt, evJ_ex, evB_nx, evB_rt, evB_ex, evC2_bool, evS_and, evS_or, evS_tf, evS_ft, ev_t, ev_s, ev_c, evalOp, bin_add, bin_sub, bin_mul, bin_eql, bin_neq, bin_lss, bin_leq, bin_gtr, bin_geq, sbin_eql, sbin_neq, b8, List.map_cons, List.map_nil, PV.rens, PV.ren, if_true, if_false, Bool.false_eq_true, reduceIte, Nat.reduceAdd, Nat.reduceSub, Nat.reduceMul, Nat.reduceEqDiff, Nat.reduceLeDiff, Int.reduceLE, Int.reduceLT, Int.reduceEq, Int.reduceToNat, Int.reduceAdd, Int.reduceSub, Int.reduceNeg, decide_true, decide_false, Bool.not_true, Bool.not_false, Bool.true_and, Bool.false_and, Bool.and_true, Bool.and_false, Bool.or_true, Bool.true_or, Bool.or_false, Bool.false_or, and_self, and_true, true_and, Nat.le_refl, Nat.zero_add, Nat.mul_one, Nat.one_ne_zero, Nat.zero_le, highP, lowP, Option.map_some, Option.map_none, List.drop_zero, List.take_zero, List.length_cons, List.length_nil, List.nil_append, List.append_nil, List.cons_append, fillP, PV.cells?, PV.one, PV.cleans, PV.clean, PV.of?, List.all_cons, List.all_nil, List.take_succ_cons, List.drop_succ_cons, Bool.and_self, Int.natCast_nonneg, Int.toNat_natCast, Int.toNat_zero, h3]) (b.length + 1) 0 [accL .no L, .int .i64 L.length, .int .i64 (0 : Nat)] [] (by unfold accL; rfl) (Nat.zero_le _) (by omega)
    have o0 : ((0 : Nat) : Int) = 0 := rfl
    simp only [q57, evL_op, evL_sel, evL_nx, evL_exit, evL_ret, evL_join, evL_block, evL_cond, evK_some, evJ_nx, evJ_rt, evJ_ex, evB_nx, evB_rt, evB_ex, evC2_bool, evS_and, evS_or, evS_tf, evS_ft, ev_t, ev_s, ev_c, evalOp, bin_add, bin_sub, bin_mul, bin_eql, bin_neq, bin_lss, bin_leq, bin_gtr, bin_geq, sbin_eql, sbin_neq, b8, List.map_cons, List.map_nil, PV.rens, PV.ren, if_true, if_false, Bool.false_eq_true, reduceIte, Nat.reduceAdd, Nat.reduceSub, Nat.reduceMul, Nat.reduceEqDiff, Nat.reduceLeDiff, Int.reduceLE, Int.reduceLT, Int.reduceEq, Int.reduceToNat, Int.reduceAdd, Int.reduceSub, Int.reduceNeg, decide_true, decide_false, Bool.not_true, Bool.not_false, Bool.true_and, Bool.false_and, Bool.and_true, Bool.and_false, Bool.or_true, Bool.true_or, Bool.or_false, Bool.false_or, and_self, and_true, true_and, Nat.le_refl, Nat.zero_add, Nat.mul_one, Nat.one_ne_zero, Nat.zero_le, highP, lowP, Option.map_some, Option.map_none, List.drop_zero, List.take_zero, List.length_cons, List.length_nil, List.nil_append, List.append_nil, List.cons_append, fillP, PV.cells?, PV.one, PV.cleans, PV.clean, PV.of?, List.all_cons, List.all_nil, List.take_succ_cons, List.drop_succ_cons, Bool.and_self, Int.natCast_nonneg, Int.toNat_natCast, Int.toNat_zero, PV.rens, PV.ren, Tk.ren, T67, c1, c2, h2, accL, evL_loop, List.drop_zero, o0] at lp ⊢
    rw [lp]
    by_cases hlm : L.all cleanB = true
    · simp only [hlm, q57_2, evL_op, evL_sel, evL_nx, evL_exit, evL_ret, evL_join, evL_block, evL_cond, evK_some, evJ_nx, evJ_rt, evJ_ex, evB_nx, evB_rt, evB_ex, evC2_bool, evS_and, evS_or, evS_tf, evS_ft, ev_t, ev_s, ev_c, evalOp, bin_add, bin_sub, bin_mul, bin_eql, bin_neq, bin_lss, bin_leq, bin_gtr, bin_geq, sbin_eql, sbin_neq, b8, List.map_cons, List.map_nil, PV.rens, PV.ren, if_true, if_false, Bool.false_eq_true, reduceIte, Nat.reduceAdd, Nat.reduceSub, Nat.reduceMul, Nat.reduceEqDiff, Nat.reduceLeDiff, Int.reduceLE, Int.reduceLT, Int.reduceEq, Int.reduceToNat, Int.reduceAdd, Int.reduceSub, Int.reduceNeg, decide_true, decide_false, Bool.not_true, Bool.not_false, Bool.true_and, Bool.false_and, Bool.and_true, Bool.and_false, Bool.or_true, Bool.true_or, Bool.or_false, Bool.false_or, and_self, and_true, true_and, Nat.le_refl, Nat.zero_add, Nat.mul_one, Nat.one_ne_zero, Nat.zero_le, highP, lowP, Option.map_some, Option.map_none, List.drop_zero, List.take_zero, List.length_cons, List.length_nil, List.nil_append, List.append_nil, List.cons_append, fillP, PV.cells?, PV.one, PV.cleans, PV.clean, PV.of?, List.all_cons, List.all_nil, List.take_succ_cons, List.drop_succ_cons, Bool.and_self, Int.natCast_nonneg, Int.toNat_natCast, Int.toNat_zero]
    · simp only [hlm, q57_2, evL_op, evL_sel, evL_nx, evL_exit, evL_ret, evL_join, evL_block, evL_cond, evK_some, evJ_nx, evJ_rt, evJ_ex, evB_nx, evB_rt, evB_ex, evC2_bool, evS_and, evS_or, evS_tf, evS_ft, ev_t, ev_s, ev_c, evalOp, bin_add, bin_sub, bin_mul, bin_eql, bin_neq, bin_lss, bin_leq, bin_gtr, bin_geq, sbin_eql, sbin_neq, b8, List.map_cons, List.map_nil, PV.rens, PV.ren, if_true, if_false, Bool.false_eq_true, reduceIte, Nat.reduceAdd, Nat.reduceSub, Nat.reduceMul, Nat.reduceEqDiff, Nat.reduceLeDiff, Int.reduceLE, Int.reduceLT, Int.reduceEq, Int.reduceToNat, Int.reduceAdd, Int.reduceSub, Int.reduceNeg, decide_true, decide_false, Bool.not_true, Bool.not_false, Bool.true_and, Bool.false_and, Bool.and_true, Bool.and_false, Bool.or_true, Bool.true_or, Bool.or_false, Bool.false_or, and_self, and_true, true_and, Nat.le_refl, Nat.zero_add, Nat.mul_one, Nat.one_ne_zero, Nat.zero_le, highP, lowP, Option.map_some, Option.map_none, List.drop_zero, List.take_zero, List.length_cons, List.length_nil, List.nil_append, List.append_nil, List.cons_append, fillP, PV.cells?, PV.one, PV.cleans, PV.clean, PV.of?, List.all_cons, List.all_nil, List.take_succ_cons, List.drop_succ_cons, Bool.and_self, Int.natCast_nonneg, Int.toNat_natCast, Int.toNat_zero]
  · have h1' : (decide (b = []) || hasNl b) = false := by simpa using h1
    have h2 : (decide ((0 : Int) < b.length) && !hasNl b) = true := by rw [hb, h1']; rfl
    have hbd : body b = false := by unfold body; rw [h1']; rfl
    rw [hbd]
    simp only [q57, evL_op, evL_sel, evL_nx, evL_exit, evL_ret, evL_join, evL_block, evL_cond, evK_some, evJ_nx, evJ_rt, evJ_ex, evB_nx, evB_rt, evB_ex, evC2_bool, evS_and, evS_or, evS_tf, evS_ft, ev_t, ev_s, ev_c, evalOp, bin_add, bin_sub, bin_mul, bin_eql, bin_neq, bin_lss, bin_leq, bin_gtr, bin_geq, sbin_eql, sbin_neq, b8, List.map_cons, List.map_nil, PV.rens, PV.ren, if_true, if_false, Bool.false_eq_true, reduceIte, Nat.reduceAdd, Nat.reduceSub, Nat.reduceMul, Nat.reduceEqDiff, Nat.reduceLeDiff, Int.reduceLE, Int.reduceLT, Int.reduceEq, Int.reduceToNat, Int.reduceAdd, Int.reduceSub, Int.reduceNeg, decide_true, decide_false, Bool.not_true, Bool.not_false, Bool.true_and, Bool.false_and, Bool.and_true, Bool.and_false, Bool.or_true, Bool.true_or, Bool.or_false, Bool.false_or, and_self, and_true, true_and, Nat.le_refl, Nat.zero_add, Nat.mul_one, Nat.one_ne_zero, Nat.zero_le, highP, lowP, Option.map_some, Option.map_none, List.drop_zero, List.take_zero, List.length_cons, List.length_nil, List.nil_append, List.append_nil, List.cons_append, fillP, PV.cells?, PV.one, PV.cleans, PV.clean, PV.of?, List.all_cons, List.all_nil, List.take_succ_cons, List.drop_succ_cons, Bool.and_self, Int.natCast_nonneg, Int.toNat_natCast, Int.toNat_zero, PV.rens, PV.ren, Tk.ren, T67, c1, h2]
theorem body_join {ls : List (List UInt8)} (h : ∀ l ∈ ls, Cl l) : body (join ls) = true := by
  unfold body
  rw [lines_join h, List.all_eq_true.2 (fun l hl => cleanB_iff.2 (h l hl)), Bool.and_true]
  rcases List.eq_nil_or_concat ls with rfl | ⟨r, l, rfl⟩
  · rfl
  · rw [List.concat_eq_append, join_app, join_one]
    have : hasNl (join r ++ (l ++ [13, 10])) = true := by
      unfold hasNl
      rw [← List.append_assoc, List.length_append]
      simp
      omega
    rw [this, Bool.or_true]
/-! ### the document's answer -/
/-- Where the first line's end begins, from a place on. -/
def endV (b : List UInt8) (i : Nat) : Int := if Lib.index (b.drop i) nl = -1 then -1 else i + Lib.index (b.drop i) nl
theorem endV_no {b : List UInt8} {i : Nat} (h : Lib.index (b.drop i) nl = -1) : endV b i = -1 := if_pos h
theorem endV_yes {b : List UInt8} {i : Nat} {a : List UInt8} (h : Lib.index (b.drop i) nl = a.length) : endV b i = ((i + a.length : Nat) : Int) := by
  unfold endV
  rw [h, if_neg (by omega)]
  omega
end Go.Proofs.YtnljpfjoboafoaaDoor.Tab
