/- AnswerMixed: it is true. -/
import Derived.Test.YtmajbgmjlggcbaaDoorWakes13
namespace Go.Proofs.YtmajbgmjlggcbaaDoor.Tab
set_option linter.all false
open Go Go.RowKit Go.Proofs.YtmajbgmjlggcbaaDoor.Ev
theorem sadd {s u : List UInt8} : binP .add (.str s) (.str u) = if s.length + u.length ≤ 9223372036854775807 then some (.str (s ++ u)) else none := by simp [binP, strBin]
def tx (y z : UInt8) : Nat → List UInt8
  | 0 => [50, y, z, 45, 97, 13, 10, 51, y, z, 32, 98, 13, 10]
  | 1 => [50, y, z, 45, 97, 13, 10, 98, 13, 10]
  | 2 => [50, y, z, 95, 97, 13, 10]
  | 3 => [50, y, z, 32, 97, 10]
  | 4 => [50, y, z, 45, 97, 13, 10]
  | 5 => [48, 50, y, z, 32, 97, 13, 10]
  | 6 => [50, y, z, 13, 10]
  | _ => [32, 50, y, z, 32, 97, 13, 10]
def yy (m : Nat) : UInt8 := UInt8.ofNat (48 + m / 10)
def zz (m : Nat) : UInt8 := UInt8.ofNat (48 + m % 10)
theorem tx_none : ∀ (m : Fin 60) (h : Fin 8), (readGo (tx (yy m.val) (zz m.val) h.val) 21 (tx (yy m.val) (zz m.val) h.val) 0 []).isNone = true := by decide +kernel
theorem tx_none' {m h : Nat} (hm : m < 60) (hh : h < 8) : readGo (tx (yy m) (zz m) h) 21 (tx (yy m) (zz m) h) 0 [] = none := by
  have := tx_none ⟨m, hm⟩ ⟨h, hh⟩
  simpa using this
theorem dg2 {m : Nat} (hm : m < 60) : dg (200 + m) = [50, yy m, zz m] ∧ dg (300 + m) = [51, yy m, zz m] := by
  constructor
  · rw [dg3 (by omega) (by omega), show (200 + m) / 100 = 2 by omega, show (200 + m) / 10 % 10 = m / 10 by omega, show (200 + m) % 10 = m % 10 by omega]; rfl
  · rw [dg3 (by omega) (by omega), show (300 + m) / 100 = 3 by omega, show (300 + m) / 10 % 10 = m / 10 by omega, show (300 + m) % 10 = m % 10 by omega]; rfl
theorem ok2 : ∀ m : Fin 60, replyOk ((200 + m.val : Nat) : Int) [[97], [98]] = true := by decide +kernel
theorem lawAnswerMixed (c : Int) (hc : (Lit.int .i64 c).wf = true) (w : Int) (hw : (Lit.int .i64 w).wf = true) :
    evT lt ov 7 [.int .i64 c, .int .i64 w] [] = some (.bool true, []) := by
  show T 7 [.int .i64 c, .int .i64 w] [] = _
  have fin : ∀ {H : Hp}, evL T 0 q7 [.int .i64 c, .int .i64 w] [] = some (.rt, [.bool true], H) → T 7 [.int .i64 c, .int .i64 w] [] = some (.bool true, []) := fun {H} h =>
    evT_of (k := 0) (F := l7) (H' := H) (e := [.bool true]) (l := [.bool true]) rfl rfl rfl h rfl rfl
  have h0 : ∀ n : Int, 0 ≤ IntKind.u64.wrap n := fun n => by
    have : IntKind.u64.wrap n = n % 18446744073709551616 := rfl
    rw [this]; omega
  obtain ⟨m, hm60, hm⟩ : ∃ m : Nat, m < 60 ∧ (IntKind.u64.wrap c).tmod 60 = (m : Int) := by
    have := h0 c
    refine ⟨((IntKind.u64.wrap c).tmod 60).toNat, ?_, ?_⟩ <;> rw [Int.tmod_eq_emod_of_nonneg this] <;> omega
  obtain ⟨h, hh8, hh⟩ : ∃ h : Nat, h < 8 ∧ (IntKind.u64.wrap w).tmod 8 = (h : Int) := by
    have := h0 w
    refine ⟨((IntKind.u64.wrap w).tmod 8).toNat, ?_, ?_⟩ <;> rw [Int.tmod_eq_emod_of_nonneg this] <;> omega
  have wm : IntKind.i64.wrap (m : Int) = (m : Int) := wr (by omega) (by omega)
  have wh : IntKind.i64.wrap (h : Int) = (h : Int) := wr (by omega) (by omega)
  have w1 : IntKind.i64.wrap (200 + (m : Int)) = ((200 + m : Nat) : Int) := by rw [wr (by omega) (by omega)]; omega
  have w2 : IntKind.i64.wrap (((200 + m : Nat) : Int) + 100) = ((300 + m : Nat) : Int) := by rw [wr (by omega) (by omega)]; omega
  have r1 : ∀ z : Int, binP .rem (.int .u64 z) (.int .u64 60) = some (.int .u64 (z.tmod 60)) := fun z => bin_rem (by decide)
  have r2 : ∀ z : Int, binP .rem (.int .u64 z) (.int .u64 8) = some (.int .u64 (z.tmod 8)) := fun z => bin_rem (by decide)
  obtain ⟨d1, d2⟩ := dg2 hm60
  have c20 : T 20 [.int .i64 ((200 + m : Nat) : Int)] [] = some (.str [50, yy m, zz m], []) := by
    have := T20 (200 + m) (by omega)
    rw [itoa_nat] at this
    rw [← d1]; exact this
  have c20' : T 20 [.int .i64 ((300 + m : Nat) : Int)] [] = some (.str [51, yy m, zz m], []) := by
    have := T20 (300 + m) (by omega)
    rw [itoa_nat] at this
    rw [← d2]; exact this
  have hok := ok2 ⟨m, hm60⟩
  have hrb : rb ((200 + m : Nat) : Int) [[97], [98]] = [50, yy m, zz m, 45, 97, 13, 10, 50, yy m, zz m, 32, 98, 13, 10] := by
    unfold rb
    rw [Int.toNat_natCast, d1]
    rfl
  have hg := readGo_yes hok [109, 111, 114, 101]
  have hlen : (rb ((200 + m : Nat) : Int) [[97], [98]]).length = 14 := by rw [hrb]; rfl
  have k2 := tx_none' hm60 hh8
  rw [hlen, hrb] at hg
  generalize yy m = y at *
  generalize zz m = z at *
  have c11 := Read_some _ (by simp) hg
  have c11n := Read_none (tx y z h) (by have : h = 0 ∨ h = 1 ∨ h = 2 ∨ h = 3 ∨ h = 4 ∨ h = 5 ∨ h = 6 ∨ h = 7 := by omega
                                        rcases this with rfl | rfl | rfl | rfl | rfl | rfl | rfl | rfl <;> simp [tx]) k2
  unfold sl8 at c11 c11n
  have e1 : decide (((200 + m : Nat) : Int) = ((200 + m : Nat) : Int)) = true := decide_eq_true rfl
  apply fin
  have : h = 0 ∨ h = 1 ∨ h = 2 ∨ h = 3 ∨ h = 4 ∨ h = 5 ∨ h = 6 ∨ h = 7 := by omega
  rcases this with rfl | rfl | rfl | rfl | rfl | rfl | rfl | rfl <;> simp only [tx, List.map_cons, List.map_nil, b8, List.length_cons, List.length_nil, Nat.reduceAdd, List.cons_append, List.nil_append] at c11 c11n <;> simp only [q7, evL_op, evL_sel, evL_nx, evL_exit, evL_ret, evL_join, evL_block, evL_cond, evK_some, evJ_nx, evJ_rt, evJ_ex, evB_nx, evB_rt, evB_ex, evC2_bool, evS_and, evS_or, evS_tf, evS_ft, ev_t, ev_s, ev_c, evalOp, bin_add, bin_sub, bin_mul, bin_eql, bin_neq, bin_lss, bin_leq, bin_gtr, bin_geq, sbin_eql, sbin_neq, b8, List.map_cons, List.map_nil, PV.rens, PV.ren, if_true, if_false, Bool.false_eq_true, reduceIte, Nat.reduceAdd, Nat.reduceSub, Nat.reduceMul, Nat.reduceEqDiff, Nat.reduceLeDiff, Int.reduceLE, Int.reduceLT, Int.reduceEq, Int.reduceToNat, Int.reduceAdd, Int.reduceSub, Int.reduceNeg, decide_true, decide_false, Bool.not_true, Bool.not_false, Bool.true_and, Bool.false_and, Bool.and_true, Bool.and_false, Bool.or_true, Bool.true_or, Bool.or_false, Bool.false_or, and_self, and_true, true_and, Nat.le_refl, Nat.zero_add, Nat.mul_one, Nat.one_ne_zero, Nat.zero_le, highP, lowP, Option.map_some, Option.map_none, List.drop_zero, List.take_zero, List.length_cons, List.length_nil, List.nil_append, List.append_nil, List.cons_append, fillP, PV.cells?, PV.one, PV.cleans, PV.clean, PV.of?, List.all_cons, List.all_nil, List.take_succ_cons, List.drop_succ_cons, Bool.and_self, Int.natCast_nonneg, Int.toNat_natCast, Int.toNat_zero, PV.of?, Tk.ren, tailP, evL_loop, or_true, true_or, Nat.zero_lt_one, Nat.sub_zero, List.getElem?_cons_zero, List.getElem?_cons_succ, List.set_cons_zero, List.set_cons_succ, List.take_length, PV.rens, PV.ren, PV.cells?, r1, r2, hm, hh, wm, wh, w1, w2, c20, c20', sadd, c11, c11n, e1, T_wakes, beq_self_eq_true, eq_self, o0, o1, (show ((2 : Nat) : Int) = 2 from rfl), (show ((8 : Nat) : Int) = 8 from rfl), (show ((14 : Nat) : Int) = 14 from rfl), (show ((3 : Nat) : Int) = 3 from rfl), (show ((4 : Nat) : Int) = 4 from rfl), (show ((5 : Nat) : Int) = 5 from rfl), (show ((6 : Nat) : Int) = 6 from rfl), (show ((7 : Nat) : Int) = 7 from rfl), (show IntKind.i64.wrap 0 = 0 from rfl), (show IntKind.i64.wrap 1 = 1 from rfl), (show IntKind.i64.wrap 2 = 2 from rfl), (show IntKind.i64.wrap 3 = 3 from rfl), (show IntKind.i64.wrap 4 = 4 from rfl), (show IntKind.i64.wrap 5 = 5 from rfl), (show IntKind.i64.wrap 6 = 6 from rfl), (show IntKind.i64.wrap 7 = 7 from rfl)] <;> rfl
end Go.Proofs.YtmajbgmjlggcbaaDoor.Tab
