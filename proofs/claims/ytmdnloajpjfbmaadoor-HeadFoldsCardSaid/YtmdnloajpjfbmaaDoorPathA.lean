/- Mailboxes: what the functions of path do. -/
import Derived.Test.YtmdnloajpjfbmaaDoorBase
namespace Go.Proofs.YtmdnloajpjfbmaaDoor.Tab
set_option linter.all false
open Go Go.RowKit Go.Proofs.YtmdnloajpjfbmaaDoor.Ev
def plain (c : UInt8) : Bool := decide ((97 : Int) ≤ c.toNat) && decide ((c.toNat : Int) ≤ 122) || decide ((65 : Int) ≤ c.toNat) && decide ((c.toNat : Int) ≤ 90) || decide ((48 : Int) ≤ c.toNat) && decide ((c.toNat : Int) ≤ 57)
theorem T53 (c : UInt8) : T 53 [.int .u8 c.toNat] [] = some (.bool (plain c), []) := by
  refine evT_of (k := 0) (F := l53) (H' := []) (e := [.bool (plain c)]) (l := [.bool (plain c)]) rfl rfl rfl ?_ rfl rfl
  simp only [l53, q53, evL_op, evL_sel, evL_nx, evL_exit, evL_ret, evL_join, evL_block, evL_cond, evK_some, evJ_nx, evJ_rt, evJ_ex, evB_nx, evB_rt, evB_ex, evC2_bool, evS_and, evS_or, evS_tf, evS_ft, ev_t, ev_s, ev_c, evalOp, bin_add, bin_sub, bin_mul, bin_eql, bin_neq, bin_lss, bin_leq, bin_gtr, bin_geq, sbin_eql, sbin_neq, b8, List.map_cons, List.map_nil, PV.rens, PV.ren, if_true, if_false, Bool.false_eq_true, reduceIte, plain]

def labelC (c : UInt8) : Bool := plain c || c == 45
theorem labelC_eq (c : UInt8) : (!plain c && !decide ((c.toNat : Int) = 45)) = !labelC c := by
  have := byte_ne c 45 (by omega)
  rw [show ((45 : Nat) : Int) = 45 from rfl] at this
  unfold labelC
  rw [this, Bool.not_or]
  rfl
theorem flat3 (s : List UInt8) (n i : Int) : ([PV.str s, .int .i64 n, .int .i64 i]).all flat = true := rfl
section
variable {H : Hp} (hH : Quiet H)
include hH
theorem body44 (k0 : Nat) (s : List UInt8) (n : Int) (i : Nat) (c : UInt8) (hn : (i : Int) < n) (hm : n ≤ 9000000000000000000) (hc : s[i]? = some c) : evL T k0 q44_1 [.str s, .int .i64 n, .int .i64 i] H =
    if labelC c = true then some (.nx, [.str s, .int .i64 n, .int .i64 (i + 1 : Nat)], H) else some (.rt, [.bool false], H) := by
  have hw : IntKind.i64.wrap ((i : Int) + 1) = ((i + 1 : Nat) : Int) := by rw [IntWalk.i64_in _ (by omega)]; rfl
  simp only [q44_1, q44_0, evL_op, evL_sel, evL_nx, evL_exit, evL_ret, evL_join, evL_block, evL_cond, evK_some, evJ_nx, evJ_rt, evJ_ex, evB_nx, evB_rt, evB_ex, evC2_bool, evS_and, evS_or, evS_tf, evS_ft, ev_t, ev_s, ev_c, evalOp, bin_add, bin_sub, bin_mul, bin_eql, bin_neq, bin_lss, bin_leq, bin_gtr, bin_geq, sbin_eql, sbin_neq, b8, List.map_cons, List.map_nil, PV.rens, PV.ren, if_true, if_false, Bool.false_eq_true, reduceIte, hn, decide_true, Int.natCast_nonneg, Int.toNat_natCast, hc, T53]
  rw [labelC_eq]
  cases labelC c with
  | true => simp only [evL_op, evL_sel, evL_nx, evL_exit, evL_ret, evL_join, evL_block, evL_cond, evK_some, evJ_nx, evJ_rt, evJ_ex, evB_nx, evB_rt, evB_ex, evC2_bool, evS_and, evS_or, evS_tf, evS_ft, ev_t, ev_s, ev_c, evalOp, bin_add, bin_sub, bin_mul, bin_eql, bin_neq, bin_lss, bin_leq, bin_gtr, bin_geq, sbin_eql, sbin_neq, b8, List.map_cons, List.map_nil, PV.rens, PV.ren, if_true, if_false, Bool.false_eq_true, reduceIte, Bool.not_true, hw]
  | false => simp only [evL_op, evL_sel, evL_nx, evL_exit, evL_ret, evL_join, evL_block, evL_cond, evK_some, evJ_nx, evJ_rt, evJ_ex, evB_nx, evB_rt, evB_ex, evC2_bool, evS_and, evS_or, evS_tf, evS_ft, ev_t, ev_s, ev_c, evalOp, bin_add, bin_sub, bin_mul, bin_eql, bin_neq, bin_lss, bin_leq, bin_gtr, bin_geq, sbin_eql, sbin_neq, b8, List.map_cons, List.map_nil, PV.rens, PV.ren, if_true, if_false, Bool.false_eq_true, reduceIte, Bool.not_false]
theorem loop44 (k0 : Nat) (s : List UInt8) (hs : s.length ≤ 9000000000000000000) : ∀ (j i : Nat), i + j = s.length → ∀ k, j < k → loopL H.length (evL T k0 q44_1) k [.str s, .int .i64 s.length, .int .i64 i] H =
    if (s.drop i).all labelC = true then some (.ex 0, [.str s], H) else some (.rt, [.bool false], H)
  | j, i, hij, 0, hk => by omega
  | 0, i, hij, k + 1, _ => by
    have h1 : ¬ ((i : Int) < s.length) := by omega
    have h2 : s.drop i = [] := List.drop_of_length_le (by omega)
    have h3 : evL T k0 q44_1 [.str s, .int .i64 s.length, .int .i64 i] H = some (.ex 0, [.str s], H) := by simp only [q44_1, evL_op, evL_sel, evL_nx, evL_exit, evL_ret, evL_join, evL_block, evL_cond, evK_some, evJ_nx, evJ_rt, evJ_ex, evB_nx, evB_rt, evB_ex, evC2_bool, evS_and, evS_or, evS_tf, evS_ft, ev_t, ev_s, ev_c, evalOp, bin_add, bin_sub, bin_mul, bin_eql, bin_neq, bin_lss, bin_leq, bin_gtr, bin_geq, sbin_eql, sbin_neq, b8, List.map_cons, List.map_nil, PV.rens, PV.ren, if_true, if_false, Bool.false_eq_true, reduceIte, h1, decide_false]
    rw [loopL_succ, hH.head (flat3 _ _ _), h3, h2]
    rfl
  | j + 1, i, hij, k + 1, hk => by
    have hi : i < s.length := by omega
    rw [loopL_succ, hH.head (flat3 _ _ _), body44 hH k0 s s.length i s[i] (by omega) (by omega) (List.getElem?_eq_getElem hi), List.drop_eq_getElem_cons hi, List.all_cons]
    cases labelC s[i] with
    | true => simp only [if_true, Bool.true_and]; exact loop44 k0 s hs j (i + 1) (by omega) k (by omega)
    | false => simp only [Bool.false_eq_true, if_false, Bool.false_and]
def label (s : List UInt8) : Bool := s.all labelC && !decide (s = []) && decide ((s.length : Int) ≤ 63) && !(s.head? == some 45) && !(s.getLast? == some 45)
theorem T44 (s : List UInt8) (hs : s.length ≤ 9000000000000000000) : T 44 [.str s] H = some (.bool (label s), H) := by
  refine evT_of (k := s.length + 1) (F := l44) (H' := H) (e := [.bool (label s)]) (l := [.bool (label s)]) rfl rfl rfl ?_ rfl (hH.fin rfl)
  have hl := loop44 hH (s.length + 1) s hs s.length 0 (by omega) (s.length + 1) (by omega)
  have h0 : evL T (s.length + 1) q44 [.str s] H = evJ T (s.length + 1) q44_2 (evB 0 (loopL H.length (evL T (s.length + 1) q44_1) (s.length + 1) [.str s, .int .i64 s.length, .int .i64 (0 : Nat)] H)) := rfl
  show evL T (s.length + 1) q44 [.str s] H = _
  rw [h0, hl, List.drop_zero]
  unfold label
  cases s.all labelC with
  | false => simp only [evL_op, evL_sel, evL_nx, evL_exit, evL_ret, evL_join, evL_block, evL_cond, evK_some, evJ_nx, evJ_rt, evJ_ex, evB_nx, evB_rt, evB_ex, evC2_bool, evS_and, evS_or, evS_tf, evS_ft, ev_t, ev_s, ev_c, evalOp, bin_add, bin_sub, bin_mul, bin_eql, bin_neq, bin_lss, bin_leq, bin_gtr, bin_geq, sbin_eql, sbin_neq, b8, List.map_cons, List.map_nil, PV.rens, PV.ren, if_true, if_false, Bool.false_eq_true, reduceIte, Bool.false_and]
  | true =>
    simp only [evL_op, evL_sel, evL_nx, evL_exit, evL_ret, evL_join, evL_block, evL_cond, evK_some, evJ_nx, evJ_rt, evJ_ex, evB_nx, evB_rt, evB_ex, evC2_bool, evS_and, evS_or, evS_tf, evS_ft, ev_t, ev_s, ev_c, evalOp, bin_add, bin_sub, bin_mul, bin_eql, bin_neq, bin_lss, bin_leq, bin_gtr, bin_geq, sbin_eql, sbin_neq, b8, List.map_cons, List.map_nil, PV.rens, PV.ren, if_true, if_false, Bool.false_eq_true, reduceIte, Bool.true_and]
    cases s with
    | nil => simp only [q44_2, evL_op, evL_sel, evL_nx, evL_exit, evL_ret, evL_join, evL_block, evL_cond, evK_some, evJ_nx, evJ_rt, evJ_ex, evB_nx, evB_rt, evB_ex, evC2_bool, evS_and, evS_or, evS_tf, evS_ft, ev_t, ev_s, ev_c, evalOp, bin_add, bin_sub, bin_mul, bin_eql, bin_neq, bin_lss, bin_leq, bin_gtr, bin_geq, sbin_eql, sbin_neq, b8, List.map_cons, List.map_nil, PV.rens, PV.ren, if_true, if_false, Bool.false_eq_true, reduceIte, decide_true, Bool.not_true, Bool.false_and]
    | cons a r =>
      have hidx : (a :: r)[Int.toNat 0]? = some a := rfl
      have h1 : (!decide ((a.toNat : Int) = 45)) = !(a == 45) := byte_ne a 45 (by omega)
      obtain ⟨z, hz⟩ : ∃ z, (a :: r).getLast? = some z := ⟨_, List.getLast?_eq_some_getLast (by simp)⟩
      have hz' : (a :: r)[(a :: r).length - 1]? = some z := by rw [← List.getLast?_eq_getElem?]; exact hz
      have h2 : (!decide ((z.toNat : Int) = 45)) = !(z == 45) := byte_ne z 45 (by omega)
      have hw : IntKind.i64.wrap (((a :: r).length : Int) - 1) = (((a :: r).length - 1 : Nat) : Int) := by
        rw [IntWalk.i64_in _ (by simp only [List.length_cons] at hs ⊢; omega)]; simp only [List.length_cons]; omega
      simp only [q44_2, evL_op, evL_sel, evL_nx, evL_exit, evL_ret, evL_join, evL_block, evL_cond, evK_some, evJ_nx, evJ_rt, evJ_ex, evB_nx, evB_rt, evB_ex, evC2_bool, evS_and, evS_or, evS_tf, evS_ft, ev_t, ev_s, ev_c, evalOp, bin_add, bin_sub, bin_mul, bin_eql, bin_neq, bin_lss, bin_leq, bin_gtr, bin_geq, sbin_eql, sbin_neq, b8, List.map_cons, List.map_nil, PV.rens, PV.ren, if_true, if_false, Bool.false_eq_true, reduceIte, decide_false, Bool.not_false, Int.le_refl, hidx, hw, Int.natCast_nonneg, Int.toNat_natCast, hz', h1, h2, reduceCtorEq, List.head?_cons, hz, Option.some_beq_some, Bool.true_and]

/-! ### atom -/
end
def signs : List UInt8 := [33, 35, 36, 37, 38, 39, 42, 43, 45, 47, 61, 63, 94, 95, 96, 123, 124, 125, 126]
def atomC (c : UInt8) : Bool := plain c || signs.contains c
section
variable {H : Hp} (hH : Quiet H)
include hH
def atom (s : List UInt8) : Bool := s.all atomC && !decide (s = [])
end

/-! ### parts -/
theorem T52 (p : Nat) (s : List UInt8) (b : Bool) (h : T p [.str s] [.cells [.fn p []]] = some (.bool b, [.cells [.fn p []]])) : T 52 [.str s, .ptr 0 0] [.cells [.fn p []]] = some (.bool !b, [.cells [.fn p []]]) := by
  refine evT_of (k := 0) (F := l52) (H' := [.cells [.fn p []]]) (e := [.bool !b]) (l := [.bool !b]) rfl rfl rfl ?_ rfl rfl
  simp only [l52, q52, evL_op, evL_sel, evL_nx, evL_exit, evL_ret, evL_join, evL_block, evL_cond, evK_some, evJ_nx, evJ_rt, evJ_ex, evB_nx, evB_rt, evB_ex, evC2_bool, evS_and, evS_or, evS_tf, evS_ft, ev_t, ev_s, ev_c, evalOp, bin_add, bin_sub, bin_mul, bin_eql, bin_neq, bin_lss, bin_leq, bin_gtr, bin_geq, sbin_eql, sbin_neq, b8, List.map_cons, List.map_nil, PV.rens, PV.ren, if_true, if_false, Bool.false_eq_true, reduceIte, List.getElem?_cons_zero, List.drop_zero, List.take_succ_cons, List.take_zero, PV.of?, List.length_cons, List.length_nil, List.append_nil, List.cons_append, List.nil_append, h]
theorem head58 (p : Nat) (n m i : Int) (l : Nat) (cs : List PV) : headS 1 [.sl .no 1 l cs, .fn 52 [.ptr 0 0], .int .i64 n, .int .i64 i] [.cells [.fn p []]] = ([.sl .no 1 l cs, .fn 52 [.ptr 0 0], .int .i64 n, .int .i64 i], [.cells [.fn p []]]) := rfl
theorem take1 {L : List (List UInt8)} {i : Nat} {s : List UInt8} (h : L[i]? = some s) : ((L.map PV.str).drop (i * 1)).take 1 = [PV.str s] := by
  have hi : i < L.length := (List.getElem?_eq_some_iff.1 h).1
  have e : L[i] = s := (List.getElem?_eq_some_iff.1 h).2
  rw [Nat.mul_one, ← List.map_drop, List.drop_eq_getElem_cons hi, List.map_cons, e]
  rfl
theorem body58 (k0 p : Nat) (L : List (List UInt8)) (n : Int) (i : Nat) (s : List UInt8) (b : Bool) (hs : L[i]? = some s) (hn : n = L.length) (hm : n ≤ 9000000000000000000) (h : T p [.str s] [.cells [.fn p []]] = some (.bool b, [.cells [.fn p []]])) :
    evL T k0 q58_1 [.sl .no 1 L.length (L.map PV.str), .fn 52 [.ptr 0 0], .int .i64 n, .int .i64 i] [.cells [.fn p []]] =
    if b = true then some (.nx, [.sl .no 1 L.length (L.map PV.str), .fn 52 [.ptr 0 0], .int .i64 n, .int .i64 (i + 1 : Nat)], [.cells [.fn p []]]) else some (.rt, [.int .i64 i], [.cells [.fn p []]]) := by
  have hi : i < L.length := (List.getElem?_eq_some_iff.1 hs).1
  have hw : IntKind.i64.wrap ((i : Int) + 1) = ((i + 1 : Nat) : Int) := by rw [IntWalk.i64_in _ (by omega)]; rfl
  have h1 : (i : Int) < L.length := by omega
  have h43 := T52 p s b h
  subst hn
  simp only [q58_1, q58_0, evL_op, evL_sel, evL_nx, evL_exit, evL_ret, evL_join, evL_block, evL_cond, evK_some, evJ_nx, evJ_rt, evJ_ex, evB_nx, evB_rt, evB_ex, evC2_bool, evS_and, evS_or, evS_tf, evS_ft, ev_t, ev_s, ev_c, evalOp, bin_add, bin_sub, bin_mul, bin_eql, bin_neq, bin_lss, bin_leq, bin_gtr, bin_geq, sbin_eql, sbin_neq, b8, List.map_cons, List.map_nil, PV.rens, PV.ren, if_true, if_false, Bool.false_eq_true, reduceIte, h1, decide_true, Int.natCast_nonneg, Int.toNat_natCast, take1 hs, and_self, PV.of?, List.drop_zero, List.take_succ_cons, List.take_zero, List.length_cons, List.length_nil, List.cons_append, List.nil_append, h43]
  cases b with
  | true => simp only [evL_op, evL_sel, evL_nx, evL_exit, evL_ret, evL_join, evL_block, evL_cond, evK_some, evJ_nx, evJ_rt, evJ_ex, evB_nx, evB_rt, evB_ex, evC2_bool, evS_and, evS_or, evS_tf, evS_ft, ev_t, ev_s, ev_c, evalOp, bin_add, bin_sub, bin_mul, bin_eql, bin_neq, bin_lss, bin_leq, bin_gtr, bin_geq, sbin_eql, sbin_neq, b8, List.map_cons, List.map_nil, PV.rens, PV.ren, if_true, if_false, Bool.false_eq_true, reduceIte, Bool.not_true, hw]
  | false => simp only [evL_op, evL_sel, evL_nx, evL_exit, evL_ret, evL_join, evL_block, evL_cond, evK_some, evJ_nx, evJ_rt, evJ_ex, evB_nx, evB_rt, evB_ex, evC2_bool, evS_and, evS_or, evS_tf, evS_ft, ev_t, ev_s, ev_c, evalOp, bin_add, bin_sub, bin_mul, bin_eql, bin_neq, bin_lss, bin_leq, bin_gtr, bin_geq, sbin_eql, sbin_neq, b8, List.map_cons, List.map_nil, PV.rens, PV.ren, if_true, if_false, Bool.false_eq_true, reduceIte, Bool.not_false]
theorem loop58 (k0 p : Nat) (L : List (List UInt8)) (f : List UInt8 → Bool) (hl : L.length ≤ 9000000000000000000) (h : ∀ s ∈ L, T p [.str s] [.cells [.fn p []]] = some (.bool (f s), [.cells [.fn p []]])) : ∀ (j i : Nat), i + j = L.length → ∀ k, j < k →
    ((L.drop i).all f = true ∧ loopL 1 (evL T k0 q58_1) k [.sl .no 1 L.length (L.map PV.str), .fn 52 [.ptr 0 0], .int .i64 L.length, .int .i64 i] [.cells [.fn p []]] = some (.ex 0, [], [.cells [.fn p []]])) ∨
    ((L.drop i).all f = false ∧ ∃ z : Nat, loopL 1 (evL T k0 q58_1) k [.sl .no 1 L.length (L.map PV.str), .fn 52 [.ptr 0 0], .int .i64 L.length, .int .i64 i] [.cells [.fn p []]] = some (.rt, [.int .i64 z], [.cells [.fn p []]]))
  | j, i, hij, 0, hk => by omega
  | 0, i, hij, k + 1, _ => by
    have h1 : ¬ ((i : Int) < L.length) := by omega
    have h2 : L.drop i = [] := List.drop_of_length_le (by omega)
    have h3 : evL T k0 q58_1 [.sl .no 1 L.length (L.map PV.str), .fn 52 [.ptr 0 0], .int .i64 L.length, .int .i64 i] [.cells [.fn p []]] = some (.ex 0, [], [.cells [.fn p []]]) := by simp only [q58_1, evL_op, evL_sel, evL_nx, evL_exit, evL_ret, evL_join, evL_block, evL_cond, evK_some, evJ_nx, evJ_rt, evJ_ex, evB_nx, evB_rt, evB_ex, evC2_bool, evS_and, evS_or, evS_tf, evS_ft, ev_t, ev_s, ev_c, evalOp, bin_add, bin_sub, bin_mul, bin_eql, bin_neq, bin_lss, bin_leq, bin_gtr, bin_geq, sbin_eql, sbin_neq, b8, List.map_cons, List.map_nil, PV.rens, PV.ren, if_true, if_false, Bool.false_eq_true, reduceIte, h1, decide_false]
    refine .inl ⟨by rw [h2]; rfl, ?_⟩
    rw [loopL_succ, head58 p _ 0, h3]
  | j + 1, i, hij, k + 1, hk => by
    have hi : i < L.length := by omega
    have hb := body58 k0 p L L.length i L[i] (f L[i]) (List.getElem?_eq_getElem hi) rfl (by omega) (h _ (List.getElem_mem hi))
    rw [loopL_succ, head58 p _ 0, hb, List.drop_eq_getElem_cons hi, List.all_cons]
    cases f L[i] with
    | true => simp only [if_true, Bool.true_and]; exact loop58 k0 p L f hl h j (i + 1) (by omega) k (by omega)
    | false => exact .inr ⟨by simp, i, by simp only [Bool.false_eq_true, if_false]⟩
theorem T50 (p : Nat) (L : List (List UInt8)) (f : List UInt8 → Bool) (hl : L.length ≤ 9000000000000000000) (h : ∀ s ∈ L, T p [.str s] [.cells [.fn p []]] = some (.bool (f s), [.cells [.fn p []]])) :
    T 50 [.sl .no 1 L.length (L.map PV.str), .fn 52 [.ptr 0 0]] [.cells [.fn p []]] = some (.bool !(L.all f), [.cells [.fn p []]]) := by
  have h49 : ∃ z : Int, T 58 [.sl .no 1 L.length (L.map PV.str), .fn 52 [.ptr 0 0]] [.cells [.fn p []]] = some (.int .i64 z, [.cells [.fn p []]]) ∧ decide (0 ≤ z) = !(L.all f) := by
    have hlp := loop58 (L.length + 1) p L f hl h L.length 0 (by omega) (L.length + 1) (by omega)
    rw [List.drop_zero] at hlp
    have h0 : evL T (L.length + 1) q58 [.sl .no 1 L.length (L.map PV.str), .fn 52 [.ptr 0 0]] [.cells [.fn p []]] = evJ T (L.length + 1) q58_2 (evB 0 (loopL 1 (evL T (L.length + 1) q58_1) (L.length + 1) [.sl .no 1 L.length (L.map PV.str), .fn 52 [.ptr 0 0], .int .i64 L.length, .int .i64 (0 : Nat)] [.cells [.fn p []]])) := rfl
    rcases hlp with ⟨h1, h2⟩ | ⟨h1, z, h2⟩
    · refine ⟨-1, evT_of (k := L.length + 1) (F := l58) (H' := [.cells [.fn p []]]) (e := [.int .i64 (-1)]) (l := [.int .i64 (-1)]) rfl rfl rfl ?_ rfl rfl, by rw [h1]; rfl⟩
      show evL T (L.length + 1) q58 _ _ = _
      rw [h0, h2]
      rfl
    · refine ⟨z, evT_of (k := L.length + 1) (F := l58) (H' := [.cells [.fn p []]]) (e := [.int .i64 z]) (l := [.int .i64 z]) rfl rfl rfl ?_ rfl rfl, by rw [h1]; simp⟩
      show evL T (L.length + 1) q58 _ _ = _
      rw [h0, h2]
      rfl
  obtain ⟨z, h1, h2⟩ := h49
  refine evT_of (k := 0) (F := l50) (H' := [.cells [.fn p []]]) (e := [.bool !(L.all f)]) (l := [.bool !(L.all f)]) rfl rfl rfl ?_ rfl rfl
  simp only [l50, q50, evL_op, evL_sel, evL_nx, evL_exit, evL_ret, evL_join, evL_block, evL_cond, evK_some, evJ_nx, evJ_rt, evJ_ex, evB_nx, evB_rt, evB_ex, evC2_bool, evS_and, evS_or, evS_tf, evS_ft, ev_t, ev_s, ev_c, evalOp, bin_add, bin_sub, bin_mul, bin_eql, bin_neq, bin_lss, bin_leq, bin_gtr, bin_geq, sbin_eql, sbin_neq, b8, List.map_cons, List.map_nil, PV.rens, PV.ren, if_true, if_false, Bool.false_eq_true, reduceIte, h1, h2]
theorem T51 (s : List UInt8) (hs : s.length < 4294967281) : T 51 [.str s, .str [46]] [] = some (.sl .no 1 (splitBy 46 s).length ((splitBy 46 s).map PV.str), []) :=
  evT_ov (φ := ovSplit) rfl (by show (if s.length < 4294967281 then _ else none) = _; rw [if_pos hs])
theorem splitBy_le (c : UInt8) : ∀ (s x : List UInt8), x ∈ splitBy c s → x.length ≤ s.length
  | [], x, h => by simp [splitBy] at h; subst h; simp
  | b :: l, x, h => by
    unfold splitBy at h
    split at h
    · rcases List.mem_cons.1 h with rfl | h
      · simp
      · have := splitBy_le c l x h; simp; omega
    · split at h
      · simp at h; subst h; simp
      · rename_i y r hy
        rcases List.mem_cons.1 h with rfl | h
        · have := splitBy_le c l y (by rw [hy]; simp); simp; omega
        · have := splitBy_le c l x (by rw [hy]; simp [h]); simp; omega
theorem splitBy_len (c : UInt8) : ∀ s : List UInt8, (splitBy c s).length ≤ s.length + 1
  | [] => by simp [splitBy]
  | b :: l => by
    have := splitBy_len c l
    unfold splitBy
    split
    · simp; omega
    · split
      · simp
      · rename_i y r hy
        rw [hy] at this
        simp at this ⊢; omega
def parts (s : List UInt8) (m : Int) (f : List UInt8 → Bool) : Bool := decide ((s.length : Int) ≤ m) && (splitBy 46 s).all f
theorem T43 (p : Nat) (s : List UInt8) (m : Int) (f : List UInt8 → Bool) (hs : s.length < 4294967281) (h : ∀ x : List UInt8, x.length ≤ 9000000000000000000 → T p [.str x] [.cells [.fn p []]] = some (.bool (f x), [.cells [.fn p []]])) :
    T 43 [.str s, .int .i64 m, .fn p []] [] = some (.bool (parts s m f), []) := by
  refine evT_of (k := 0) (F := l43) (H' := [.cells [.fn p []]]) (e := [.bool (parts s m f)]) (l := [.bool (parts s m f)]) rfl rfl rfl ?_ rfl rfl
  have h42 := T51 s hs
  have h41 := T50 p (splitBy 46 s) f (by have := splitBy_len 46 s; omega) (fun x hx => h x (by have := splitBy_le 46 s x hx; omega))
  simp only [l43, q43, evL_op, evL_sel, evL_nx, evL_exit, evL_ret, evL_join, evL_block, evL_cond, evK_some, evJ_nx, evJ_rt, evJ_ex, evB_nx, evB_rt, evB_ex, evC2_bool, evS_and, evS_or, evS_tf, evS_ft, ev_t, ev_s, ev_c, evalOp, bin_add, bin_sub, bin_mul, bin_eql, bin_neq, bin_lss, bin_leq, bin_gtr, bin_geq, sbin_eql, sbin_neq, b8, List.map_cons, List.map_nil, PV.rens, PV.ren, if_true, if_false, Bool.false_eq_true, reduceIte, PV.cells?, PV.one, List.length_nil, List.nil_append, h42, Tk.ren, h41]
  simp only [parts, Bool.not_not]
theorem T28 (s : List UInt8) (hs : s.length < 4294967281) : T 28 [.str s] [] = some (.bool (parts s 255 label), []) := by
  refine evT_of (k := 0) (F := l28) (H' := []) (e := [.bool (parts s 255 label)]) (l := [.bool (parts s 255 label)]) rfl rfl rfl ?_ rfl rfl
  have h31 := T43 44 s 255 label hs (fun x hx => T44 (quiet_fn 44) x hx)
  simp only [l28, q28, evL_op, evL_sel, evL_nx, evL_exit, evL_ret, evL_join, evL_block, evL_cond, evK_some, evJ_nx, evJ_rt, evJ_ex, evB_nx, evB_rt, evB_ex, evC2_bool, evS_and, evS_or, evS_tf, evS_ft, ev_t, ev_s, ev_c, evalOp, bin_add, bin_sub, bin_mul, bin_eql, bin_neq, bin_lss, bin_leq, bin_gtr, bin_geq, sbin_eql, sbin_neq, b8, List.map_cons, List.map_nil, PV.rens, PV.ren, if_true, if_false, Bool.false_eq_true, reduceIte, h31]
/-- Is it a Path? -/
def pathOk (nul : Bool) (l d : List UInt8) : Bool := nul && decide (l ++ d = []) || (!nul && parts l 64 atom && parts d 255 label)
abbrev D (s : List UInt8) : Bool := parts s 255 label
theorem split_ne (s : List UInt8) : splitBy 46 s ≠ [] := by
  cases s with
  | nil => simp [splitBy]
  | cons b l =>
    unfold splitBy
    split
    · simp
    · split <;> simp
theorem split_dot (b : List UInt8) : ∀ a : List UInt8, splitBy 46 (a ++ 46 :: b) = splitBy 46 a ++ splitBy 46 b
  | [] => by show splitBy 46 (46 :: b) = _; conv => lhs; unfold splitBy
             rw [if_pos rfl]; rfl
  | x :: a => by
    have ih := split_dot b a
    show splitBy 46 (x :: (a ++ 46 :: b)) = _
    conv => lhs; unfold splitBy
    conv => rhs; arg 1; unfold splitBy
    rw [ih]
    split
    · rfl
    · cases h : splitBy 46 a with
      | nil => exact absurd h (split_ne a)
      | cons y r => rfl
theorem split_cons (c : UInt8) (hc : c ≠ 46) (a : List UInt8) : ∃ y r, splitBy 46 a = y :: r ∧ splitBy 46 (c :: a) = (c :: y) :: r := by
  cases h : splitBy 46 a with
  | nil => exact absurd h (split_ne a)
  | cons y r => exact ⟨y, r, rfl, by unfold splitBy; rw [if_neg hc, h]⟩
theorem split_snoc (c : UInt8) (hc : c ≠ 46) : ∀ a : List UInt8, ∃ y, (y ++ [c]) ∈ splitBy 46 (a ++ [c])
  | [] => ⟨[], by show [c] ∈ splitBy 46 [c]; rw [splitBy_none (by simp; exact fun h => hc h.symm)]; simp⟩
  | x :: a => by
    obtain ⟨y, hy⟩ := split_snoc c hc a
    show ∃ y, y ++ [c] ∈ splitBy 46 (x :: (a ++ [c]))
    unfold splitBy
    split
    · exact ⟨y, List.mem_cons_of_mem _ hy⟩
    · cases h : splitBy 46 (a ++ [c]) with
      | nil => exact absurd h (split_ne _)
      | cons z r =>
        rw [h] at hy
        rcases List.mem_cons.1 hy with rfl | hy
        · exact ⟨x :: y, by simp⟩
        · exact ⟨y, List.mem_cons_of_mem _ hy⟩
theorem split_chars (P : UInt8 → Bool) : ∀ s : List UInt8, (splitBy 46 s).all (fun l => l.all P) = true → ∀ x ∈ s, P x = true ∨ x = 46
  | [], _, x, hx => by cases hx
  | b :: l, h, x, hx => by
    unfold splitBy at h
    by_cases hb : b = 46
    · rw [if_pos hb] at h
      rcases List.mem_cons.1 hx with rfl | hx
      · exact .inr hb
      · exact split_chars P l (by simpa using h) x hx
    · rw [if_neg hb] at h
      cases hs : splitBy 46 l with
      | nil => exact absurd hs (split_ne l)
      | cons y r =>
        rw [hs] at h
        simp only [List.all_cons, Bool.and_eq_true] at h
        rcases List.mem_cons.1 hx with rfl | hx
        · exact .inl h.1.1
        · exact split_chars P l (by rw [hs]; simp only [List.all_cons, Bool.and_eq_true]; exact ⟨h.1.2, h.2⟩) x hx
theorem label_chars {s : List UInt8} (h : label s = true) : s.all labelC = true := by
  unfold label at h
  simp only [Bool.and_eq_true] at h
  exact h.1.1.1.1
theorem wrap_len (n : Nat) (h : n ≤ 9000000000000000000) : IntKind.i64.wrap ((n : Int) - 1) = (n : Int) - 1 := IntWalk.i64_in _ (by omega)
/-- A text without its first sign. -/
def cutP (s : List UInt8) (c : UInt8) : List UInt8 × Bool := if s.head? = some c then (s.tail, true) else (s, false)
def cutS (s : List UInt8) (c : UInt8) : List UInt8 × Bool := if s.getLast? = some c then (s.dropLast, true) else (s, false)
def cutA (s : List UInt8) (c : UInt8) : List UInt8 × List UInt8 × Bool := if c ∈ s then (s.takeWhile (· != c), (s.dropWhile (· != c)).tail, true) else (s, [], false)
theorem T76 (s : List UInt8) (c : UInt8) : T 76 [.str s, .str [c]] [] = some (.int .i64 (idxB s c), []) := evT_ov (φ := ovI1) rfl rfl
theorem cutP_len (s : List UInt8) (c : UInt8) : (cutP s c).1.length ≤ s.length := by unfold cutP; split <;> simp
theorem cutS_len (s : List UInt8) (c : UInt8) : (cutS s c).1.length ≤ s.length := by unfold cutS; split <;> simp
theorem cutA_len (s : List UInt8) (c : UInt8) : (cutA s c).1.length + (cutA s c).2.1.length ≤ s.length := by
  unfold cutA
  split
  · rename_i h
    have e : s = s.takeWhile (· != c) ++ s.dropWhile (· != c) := (List.takeWhile_append_dropWhile).symm
    have h2 : s.length = (s.takeWhile (· != c)).length + (s.dropWhile (· != c)).length := by rw [← List.length_append, ← e]
    simp only [List.length_tail]; omega
  · simp
/-- What a text between brackets is. -/
def inner (s : List UInt8) : List UInt8 × List UInt8 := ((cutA (cutS (cutP s 60).1 62).1 64).1, (cutA (cutS (cutP s 60).1 62).1 64).2.1)
def innerOk (s : List UInt8) : Bool := (cutP s 60).2 && (cutS (cutP s 60).1 62).2 && (cutA (cutS (cutP s 60).1 62).1 64).2.2 && pathOk false (inner s).1 (inner s).2
abbrev pathV (n : Bool) (l d : List UInt8) : PV := .agg [.bool n, .str l, .str d]
def parseC (s : List UInt8) : List PV := if s = [60, 62] then [.bool true, .str [], .str []] else if innerOk s = true then [.bool false, .str (inner s).1, .str (inner s).2] else [.bool false, .str [], .str []]
def parseV (s : List UInt8) : PV := .agg (parseC s)
theorem parseC_len (s : List UInt8) : (parseC s).length = 3 := by unfold parseC; split <;> (try split) <;> rfl
def parseOk (s : List UInt8) : Bool := decide (s = [60, 62]) || innerOk s
def textOf (n : Bool) (l d : List UInt8) : List UInt8 := if n = true then [60, 62] else 60 :: (l ++ 64 :: (d ++ [62]))
end Go.Proofs.YtmdnloajpjfbmaaDoor.Tab
