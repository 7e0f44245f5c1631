/- Chapter 11: what the document's answer says of Paths. -/
import Derived.Test.YtgilfigaimndkaaDoorPath2
namespace Go.Proofs.YtgilfigaimndkaaDoor.Tab
set_option linter.all false
open Go Go.RowKit Go.Proofs.YtgilfigaimndkaaDoor.Ev
def letterC (c : UInt8) : Bool := decide ((97 : Int) ≤ c.toNat) && decide ((c.toNat : Int) ≤ 122) || decide ((65 : Int) ≤ c.toNat) && decide ((c.toNat : Int) ≤ 90)
def digitC (c : UInt8) : Bool := decide ((48 : Int) ≤ c.toNat) && decide ((c.toNat : Int) ≤ 57)
theorem plain_eq (c : UInt8) : plain c = (letterC c || digitC c) := rfl
theorem T35 (c : UInt8) : T 35 [.int .u8 c.toNat] [] = some (.bool (letterC c), []) := by
  refine evT_of (k := 0) (F := l35) (H' := []) (e := [.bool (letterC c)]) (l := [.bool (letterC c)]) rfl rfl rfl ?_ rfl rfl
  simp only [l35, q35, evL_op, evL_sel, evL_nx, evL_exit, evL_ret, evL_join, evL_block, evL_cond, evK_some, evJ_nx, evJ_rt, evJ_ex, evB_nx, evB_rt, evB_ex, evC2_bool, evS_and, evS_or, evS_tf, evS_ft, ev_t, ev_s, ev_c, evalOp, bin_add, bin_sub, bin_mul, bin_eql, bin_neq, bin_lss, bin_leq, bin_gtr, bin_geq, sbin_eql, sbin_neq, b8, List.map_cons, List.map_nil, PV.rens, PV.ren, if_true, if_false, Bool.false_eq_true, reduceIte, letterC]
theorem T36 (c : UInt8) : T 36 [.int .u8 c.toNat] [] = some (.bool (digitC c), []) := by
  refine evT_of (k := 0) (F := l36) (H' := []) (e := [.bool (digitC c)]) (l := [.bool (digitC c)]) rfl rfl rfl ?_ rfl rfl
  simp only [l36, q36, evL_op, evL_sel, evL_nx, evL_exit, evL_ret, evL_join, evL_block, evL_cond, evK_some, evJ_nx, evJ_rt, evJ_ex, evB_nx, evB_rt, evB_ex, evC2_bool, evS_and, evS_or, evS_tf, evS_ft, ev_t, ev_s, ev_c, evalOp, bin_add, bin_sub, bin_mul, bin_eql, bin_neq, bin_lss, bin_leq, bin_gtr, bin_geq, sbin_eql, sbin_neq, b8, List.map_cons, List.map_nil, PV.rens, PV.ren, if_true, if_false, Bool.false_eq_true, reduceIte, digitC]
theorem T34 (n a b : Int) : T 34 [.int .i64 n, .int .i64 a, .int .i64 b] [] = some (.bool (decide (a ≤ n) && decide (n ≤ b)), []) := by
  refine evT_of (k := 0) (F := l34) (H' := []) (e := [.bool (decide (a ≤ n) && decide (n ≤ b))]) (l := [.bool (decide (a ≤ n) && decide (n ≤ b))]) rfl rfl rfl ?_ rfl rfl
  simp only [l34, q34, evL_op, evL_sel, evL_nx, evL_exit, evL_ret, evL_join, evL_block, evL_cond, evK_some, evJ_nx, evJ_rt, evJ_ex, evB_nx, evB_rt, evB_ex, evC2_bool, evS_and, evS_or, evS_tf, evS_ft, ev_t, ev_s, ev_c, evalOp, bin_add, bin_sub, bin_mul, bin_eql, bin_neq, bin_lss, bin_leq, bin_gtr, bin_geq, sbin_eql, sbin_neq, b8, List.map_cons, List.map_nil, PV.rens, PV.ren, if_true, if_false, Bool.false_eq_true, reduceIte]
theorem byte_eq (c d : UInt8) : decide ((c.toNat : Int) = d.toNat) = (c == d) := by
  by_cases h : c = d
  · subst h; simp
  · have h2 : c.toNat ≠ d.toNat := fun e => h (UInt8.toNat_inj.1 e)
    have h3 : ¬ ((c.toNat : Int) = d.toNat) := by omega
    simp [h, h3]
theorem loop40 (k0 : Nat) (c : UInt8) (s : List UInt8) (hs : s.length ≤ 9000000000000000000) : ∀ (j i : Nat), i + j = s.length → ∀ k, j < k → loopL 0 (evL T k0 q40_1) k [.int .u8 c.toNat, .str s, .int .i64 i] [] =
    if (s.drop i).contains c = true then some (.rt, [.bool true], []) else some (.ex 0, [.int .u8 c.toNat], [])
  | j, i, hij, 0, hk => by omega
  | 0, i, hij, k + 1, _ => by
    have h1 : ¬ ((i : Int) < s.length) := by omega
    have h2 : s.drop i = [] := List.drop_of_length_le (by omega)
    have h3 : evL T k0 q40_1 [.int .u8 c.toNat, .str s, .int .i64 i] [] = some (.ex 0, [.int .u8 c.toNat], []) := by simp only [q40_1, evL_op, evL_sel, evL_nx, evL_exit, evL_ret, evL_join, evL_block, evL_cond, evK_some, evJ_nx, evJ_rt, evJ_ex, evB_nx, evB_rt, evB_ex, evC2_bool, evS_and, evS_or, evS_tf, evS_ft, ev_t, ev_s, ev_c, evalOp, bin_add, bin_sub, bin_mul, bin_eql, bin_neq, bin_lss, bin_leq, bin_gtr, bin_geq, sbin_eql, sbin_neq, b8, List.map_cons, List.map_nil, PV.rens, PV.ren, if_true, if_false, Bool.false_eq_true, reduceIte, h1, decide_false]
    rw [loopL_succ, head0 (env := [.int .u8 c.toNat, .str s, .int .i64 i]) rfl, h3, h2]
    rfl
  | j + 1, i, hij, k + 1, hk => by
    have hi : i < s.length := by omega
    have h1 : (i : Int) < s.length := by omega
    have hw : IntKind.i64.wrap ((i : Int) + 1) = ((i + 1 : Nat) : Int) := by rw [IntWalk.i64_in _ (by omega)]; rfl
    have hc : s[i]? = some s[i] := List.getElem?_eq_getElem hi
    have h3 : evL T k0 q40_1 [.int .u8 c.toNat, .str s, .int .i64 i] [] = if (s[i] == c) = true then some (.rt, [.bool true], []) else some (.nx, [.int .u8 c.toNat, .str s, .int .i64 (i + 1 : Nat)], []) := by
      simp only [q40_1, q40_0, evL_op, evL_sel, evL_nx, evL_exit, evL_ret, evL_join, evL_block, evL_cond, evK_some, evJ_nx, evJ_rt, evJ_ex, evB_nx, evB_rt, evB_ex, evC2_bool, evS_and, evS_or, evS_tf, evS_ft, ev_t, ev_s, ev_c, evalOp, bin_add, bin_sub, bin_mul, bin_eql, bin_neq, bin_lss, bin_leq, bin_gtr, bin_geq, sbin_eql, sbin_neq, b8, List.map_cons, List.map_nil, PV.rens, PV.ren, if_true, if_false, Bool.false_eq_true, reduceIte, h1, decide_true, Int.natCast_nonneg, Int.toNat_natCast, hc, byte_eq]
      cases (s[i] == c) with
      | true => simp only [evL_op, evL_sel, evL_nx, evL_exit, evL_ret, evL_join, evL_block, evL_cond, evK_some, evJ_nx, evJ_rt, evJ_ex, evB_nx, evB_rt, evB_ex, evC2_bool, evS_and, evS_or, evS_tf, evS_ft, ev_t, ev_s, ev_c, evalOp, bin_add, bin_sub, bin_mul, bin_eql, bin_neq, bin_lss, bin_leq, bin_gtr, bin_geq, sbin_eql, sbin_neq, b8, List.map_cons, List.map_nil, PV.rens, PV.ren, if_true, if_false, Bool.false_eq_true, reduceIte]
      | false => simp only [evL_op, evL_sel, evL_nx, evL_exit, evL_ret, evL_join, evL_block, evL_cond, evK_some, evJ_nx, evJ_rt, evJ_ex, evB_nx, evB_rt, evB_ex, evC2_bool, evS_and, evS_or, evS_tf, evS_ft, ev_t, ev_s, ev_c, evalOp, bin_add, bin_sub, bin_mul, bin_eql, bin_neq, bin_lss, bin_leq, bin_gtr, bin_geq, sbin_eql, sbin_neq, b8, List.map_cons, List.map_nil, PV.rens, PV.ren, if_true, if_false, Bool.false_eq_true, reduceIte, hw]
    rw [loopL_succ, head0 (env := [.int .u8 c.toNat, .str s, .int .i64 i]) rfl, h3, List.drop_eq_getElem_cons hi, List.contains_cons]
    by_cases h : s[i] = c
    · simp [h]
    · have h4 : (s[i] == c) = false := by simpa using h
      have h5 : (c == s[i]) = false := by simpa using Ne.symm h
      rw [h4, h5]
      simp only [Bool.false_eq_true, if_false, Bool.false_or]
      exact loop40 k0 c s hs j (i + 1) (by omega) k (by omega)
def signs18 : List UInt8 := [33, 35, 36, 37, 38, 39, 42, 43, 45, 47, 61, 63, 94, 95, 123, 124, 125, 126]
theorem sign_eq (c : UInt8) : (plain c || (signs18.contains c || c == 96)) = atomC c := by
  unfold atomC
  congr 1
  simp only [signs18, signs, List.contains_cons, List.contains_nil]
  cases (c == 33) <;> cases (c == 35) <;> cases (c == 36) <;> cases (c == 37) <;> cases (c == 38) <;> cases (c == 96) <;> simp
theorem T40 (c : UInt8) : T 40 [.int .u8 c.toNat] [] = some (.bool (atomC c), []) := by
  refine evT_of (k := 19) (F := l40) (H' := []) (e := [.bool (atomC c)]) (l := [.bool (atomC c)]) rfl rfl rfl ?_ rfl rfl
  show evL T 19 q40 _ _ = _
  have hl := loop40 19 c signs18 (by decide) 18 0 rfl 19 (by omega)
  have h35 := T35 c
  have h36 := T36 c
  have h96 := byte_eq c 96
  have e96 : ((96 : UInt8).toNat : Int) = 96 := rfl
  rw [e96] at h96
  rw [List.drop_zero] at hl
  rw [← sign_eq, plain_eq]
  unfold signs18 at hl
  have h0 : evL T 19 q40 [.int .u8 c.toNat] [] = if (letterC c || digitC c) = true then some (.rt, [.bool true], []) else evJ T 19 q40_2 (evB 0 (loopL 0 (evL T 19 q40_1) 19 [.int .u8 c.toNat, .str [33, 35, 36, 37, 38, 39, 42, 43, 45, 47, 61, 63, 94, 95, 123, 124, 125, 126], .int .i64 (0 : Nat)] [])) := by
    have e0 : ((0 : Nat) : Int) = 0 := rfl
    rw [e0]
    simp only [q40, evL_op, evL_sel, evL_nx, evL_exit, evL_ret, evL_join, evL_block, evL_cond, evK_some, evJ_nx, evJ_rt, evJ_ex, evB_nx, evB_rt, evB_ex, evC2_bool, evS_and, evS_or, evS_tf, evS_ft, ev_t, ev_s, ev_c, evalOp, bin_add, bin_sub, bin_mul, bin_eql, bin_neq, bin_lss, bin_leq, bin_gtr, bin_geq, sbin_eql, sbin_neq, b8, List.map_cons, List.map_nil, PV.rens, PV.ren, if_true, if_false, Bool.false_eq_true, reduceIte, h35, h36, evL_loop, List.length_nil]
  rw [h0, hl]
  cases (letterC c || digitC c) with
  | true => rfl
  | false =>
    show _ = some (Fl.rt, [PV.bool (false || (signs18.contains c || c == 96))], ([] : Hp))
    rw [Bool.false_or]
    unfold signs18
    cases ([33, 35, 36, 37, 38, 39, 42, 43, 45, 47, 61, 63, 94, 95, 123, 124, 125, 126] : List UInt8).contains c with
    | true => simp only [evL_op, evL_sel, evL_nx, evL_exit, evL_ret, evL_join, evL_block, evL_cond, evK_some, evJ_nx, evJ_rt, evJ_ex, evB_nx, evB_rt, evB_ex, evC2_bool, evS_and, evS_or, evS_tf, evS_ft, ev_t, ev_s, ev_c, evalOp, bin_add, bin_sub, bin_mul, bin_eql, bin_neq, bin_lss, bin_leq, bin_gtr, bin_geq, sbin_eql, sbin_neq, b8, List.map_cons, List.map_nil, PV.rens, PV.ren, if_true, if_false, Bool.false_eq_true, reduceIte, Bool.true_or]
    | false => simp only [q40_2, evL_op, evL_sel, evL_nx, evL_exit, evL_ret, evL_join, evL_block, evL_cond, evK_some, evJ_nx, evJ_rt, evJ_ex, evB_nx, evB_rt, evB_ex, evC2_bool, evS_and, evS_or, evS_tf, evS_ft, ev_t, ev_s, ev_c, evalOp, bin_add, bin_sub, bin_mul, bin_eql, bin_neq, bin_lss, bin_leq, bin_gtr, bin_geq, sbin_eql, sbin_neq, b8, List.map_cons, List.map_nil, PV.rens, PV.ren, if_true, if_false, Bool.false_eq_true, reduceIte, h96, Bool.false_or]
end Go.Proofs.YtgilfigaimndkaaDoor.Tab
