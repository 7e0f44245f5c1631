/- HeadHops: it is true. -/
import Derived.Test.YtmdnloajpjfbmaaDoorWritten
namespace Go.Proofs.YtmdnloajpjfbmaaDoor.Tab
set_option linter.all false
open Go Go.RowKit Go.Proofs.YtmdnloajpjfbmaaDoor.Ev
theorem dec_step {u q r : Nat} (h : ¬ u < 10) (hq : u / 10 = q) (hr : u % 10 = r) : Lib.decDigits u = Lib.decDigits q ++ [UInt8.ofNat (48 + r)] := by rw [dec_big h, hq, hr]
theorem itoa_big : Lib.itoa ((1099511627776 : Nat) : Int) = [49, 48, 57, 57, 53, 49, 49, 54, 50, 55, 55, 55, 54] := by
  rw [itoa_nat, dec_step (u := 1099511627776) (q := 109951162777) (r := 6) (by decide) (by decide) (by decide), dec_step (u := 109951162777) (q := 10995116277) (r := 7) (by decide) (by decide) (by decide), dec_step (u := 10995116277) (q := 1099511627) (r := 7) (by decide) (by decide) (by decide), dec_step (u := 1099511627) (q := 109951162) (r := 7) (by decide) (by decide) (by decide), dec_step (u := 109951162) (q := 10995116) (r := 2) (by decide) (by decide) (by decide), dec_step (u := 10995116) (q := 1099511) (r := 6) (by decide) (by decide) (by decide), dec_step (u := 1099511) (q := 109951) (r := 1) (by decide) (by decide) (by decide), dec_step (u := 109951) (q := 10995) (r := 1) (by decide) (by decide) (by decide), dec_step (u := 10995) (q := 1099) (r := 5) (by decide) (by decide) (by decide), dec_step (u := 1099) (q := 109) (r := 9) (by decide) (by decide) (by decide), dec_step (u := 109) (q := 10) (r := 9) (by decide) (by decide) (by decide), dec_step (u := 10) (q := 1) (r := 0) (by decide) (by decide) (by decide), Lib.decDigits_one (i := 1) (by decide)]
  rfl
def hopT : List UInt8 := [58, 32, 120, 13, 10, 88, 58, 32, 121, 13, 10]
theorem hopT_def : hopT = [58, 32, 120, 13, 10, 88, 58, 32, 121, 13, 10] := rfl
def recx : List UInt8 := [114, 69, 99, 69, 73, 86, 69, 68]
theorem recx_def : recx = [114, 69, 99, 69, 73, 86, 69, 68] := rfl
def rcdN (t : Bool) : List UInt8 := if t = true then recx else recd
def endH : List UInt8 := [13, 10, 82, 101, 99, 101, 105, 118, 101, 100, 58, 32, 122, 13, 10]
theorem endH_def : endH = [13, 10, 82, 101, 99, 101, 105, 118, 101, 100, 58, 32, 122, 13, 10] := rfl
def sBig : List UInt8 := [82, 101, 99, 101, 105, 118, 101, 100, 58, 32, 102, 114, 111, 109, 32, 97, 32, 98, 121, 32, 120, 32, 119, 105, 116, 104, 32, 69, 83, 77, 84, 80, 59, 32, 49, 48, 57, 57, 53, 49, 49, 54, 50, 55, 55, 55, 54, 13, 10]
theorem sBig_def : sBig = [82, 101, 99, 101, 105, 118, 101, 100, 58, 32, 102, 114, 111, 109, 32, 97, 32, 98, 121, 32, 120, 32, 119, 105, 116, 104, 32, 69, 83, 77, 84, 80, 59, 32, 49, 48, 57, 57, 53, 49, 49, 54, 50, 55, 55, 55, 54, 13, 10] := rfl
theorem stampBig : stampB [97] [120] 1099511627776 = sBig := by
  unfold stampB stampL
  rw [itoa_big]
  rfl
def hF (t : Bool) : List Fld := [(rcdN t, [32, 120]), ([88], [32, 121])]
theorem flat_hops (D : List Fld) (t : Bool) : flatF (D ++ hF t) = flatF D ++ (rcdN t ++ hopT) := by
  unfold flatF hF
  rw [List.map_append, join_app]
  congr 1
  cases t <;> rfl
theorem hF_good (t : Bool) : ∀ f ∈ hF t, goodF f := fun f hf => by
  have c1 : Cl [32, 120] := lit_cl (by decide)
  have c2 : Cl [32, 121] := lit_cl (by decide)
  unfold hF at hf
  simp only [List.mem_cons, List.not_mem_nil, or_false] at hf
  rcases hf with rfl | rfl
  · refine ⟨?_, c1⟩
    cases t <;> rfl
  · exact ⟨rfl, c2⟩
theorem hF_hops (t : Bool) : hops (hF t) = 1 := by cases t <;> rfl
theorem rcdN_len (t : Bool) : (rcdN t ++ hopT).length = 19 := by cases t <;> rfl
def bH (i : Nat) (D : List Fld) : PV := .sl (.tok 0) (if i = 0 then 0 else 1) (flatF D).length ((flatF D).map b8)
section
variable (fs : List Bool) (m : Nat) (h12 : m < 12)
include h12
theorem loop_hopsL (k0 : Nat) : ∃ (z : Nat) (D : List Fld), (∀ f ∈ D, goodF f) ∧ hops D = m ∧ (flatF D).length ≤ 300 ∧ (z = 1 ∨ z = 0) ∧
    loopL 0 (evL T k0 q6_2) 13 [.int .i64 m, .sl .no 1 fs.length (fs.map fun b => .bool b), .sl .nil 0 0 [], .int .i64 0] [] = some (.ex 0, [.int .i64 m, .sl (.tok 0) z (flatF D).length ((flatF D).map b8)], [.tok]) := by
  have lp := loop_post (n := 0) (body := evL T k0 q6_2) (σ := Nat × List Fld) (fun s => [.int .i64 m, .sl .no 1 fs.length (fs.map fun b => .bool b), bH s.1 s.2, .int .i64 s.1]) (fun _ => [.tok]) (fun s => m - s.1)
    (fun s => s.1 ≤ m ∧ (∀ f ∈ s.2, goodF f) ∧ hops s.2 = s.1 ∧ (flatF s.2).length = 19 * s.1) (fun r => ∃ (z : Nat) (D : List Fld), (∀ f ∈ D, goodF f) ∧ hops D = m ∧ (flatF D).length ≤ 300 ∧ (z = 1 ∨ z = 0) ∧ r = (.ex 0, [.int .i64 m, .sl (.tok 0) z (flatF D).length ((flatF D).map b8)], [.tok])) ?_ 13 (0, []) [.int .i64 m, .sl .no 1 fs.length (fs.map fun b => .bool b), .sl .nil 0 0 [], .int .i64 (0 : Nat)] [] rfl ⟨Nat.zero_le _, fun f h => (by cases h), rfl, rfl⟩ (by dsimp only; omega)
  · obtain ⟨r, lp, z, D, hD, hh, hl, hz, rfl⟩ := lp
    exact ⟨z, D, hD, hh, hl, hz, lp⟩
  rintro ⟨i, D⟩ ⟨hi, hD, hh, hl⟩
  dsimp only at hi hD hh hl ⊢
  rcases Nat.lt_or_ge i m with h | h
  · have g1 : (i : Int) < m := by omega
    have z3 : ((if i = 0 then 0 else 1) = 1 ∨ (if i = 0 then 0 else 1) = 0) := by split <;> simp
    have w1 := wr1 (show i < 9223372036854775807 by omega)
    have key : ∀ t : Bool, (flatF D).length + (rcdN t ++ hopT).length ≤ roomMax := fun t => by rw [rcdN_len]; unfold roomMax; omega
    have hst : ∀ t : Bool, (i + 1 ≤ m ∧ (∀ f ∈ D ++ hF t, goodF f) ∧ hops (D ++ hF t) = i + 1 ∧ (flatF (D ++ hF t)).length = 19 * (i + 1)) := fun t => by
      refine ⟨h, fun f hf => ?_, by rw [hops_app, hF_hops, hh], by rw [flat_hops, List.length_append, rcdN_len]; omega⟩
      rcases List.mem_append.1 hf with hf | hf
      · exact hD f hf
      · exact hF_good t f hf
    have a1 : ∀ t : Bool, binP .add (.str (rcdN t)) (.str hopT) = some (.str (rcdN t ++ hopT)) := fun t => sbin_add (by cases t <;> decide)
    have fin : ∀ (t : Bool) (k : Nat), .sl (.tok k) 1 ((flatF D).length + (rcdN t ++ hopT).length) ((flatF D).map b8 ++ (rcdN t ++ hopT).map b8) = PV.sl (.tok k) 1 (flatF (D ++ hF t)).length ((flatF (D ++ hF t)).map b8) := fun t k => by
      rw [← List.length_append, ← List.map_append, ← flat_hops]
    have e1 : rcdN true = recx := rfl
    have e2 : rcdN false = recd := rfl
    by_cases h1 : (i : Int) < fs.length
    · have gf : ((fs.map fun b => PV.bool b).drop i).take 1 = [.bool (fs[i]'(by omega))] := by
        rw [← List.map_drop, List.drop_eq_getElem_cons (by omega), List.map_cons]; rfl
      generalize fs[i]'(by omega) = t at *
      have k1 := key t
      have k2 := a1 t
      have k3 := fin t
      refine .inr ⟨(i + 1, D ++ hF t), [.int .i64 m, .sl .no 1 fs.length (fs.map fun b => .bool b), .sl (.tok 1) 1 (flatF (D ++ hF t)).length ((flatF (D ++ hF t)).map b8), .int .i64 ((i + 1 : Nat) : Int)], [.dead, .tok], ?_, ?_, hst t, by dsimp only; omega⟩
      · cases t with
        | true =>
          rw [e1] at k1 k2
          simp only [q6_2, q6_1, q6_0, ← hopT_def, ← recx_def, ← recd_def, evL_op, evL_sel, evL_nx, evL_exit, evL_ret, evL_join, evL_block, evL_cond, evK_some, evJ_nx, evJ_rt, evJ_ex, evB_nx, evB_rt, evB_ex, evC2_bool, evS_and, evS_or, evS_tf, evS_ft, ev_t, ev_s, ev_c, evalOp, bin_add, bin_sub, bin_mul, bin_eql, bin_neq, bin_lss, bin_leq, bin_gtr, bin_geq, sbin_eql, sbin_neq, b8, List.map_cons, List.map_nil, PV.rens, PV.ren, if_true, if_false, Bool.false_eq_true, reduceIte, Nat.reduceAdd, Nat.reduceSub, Nat.reduceMul, Nat.reduceEqDiff, Nat.reduceLeDiff, Int.reduceLE, Int.reduceLT, Int.reduceEq, Int.reduceToNat, Int.reduceAdd, Int.reduceSub, Int.reduceNeg, decide_true, decide_false, Bool.not_true, Bool.not_false, Bool.true_and, Bool.false_and, Bool.and_true, Bool.and_false, Bool.or_true, Bool.true_or, Bool.or_false, Bool.false_or, and_self, and_true, true_and, Nat.le_refl, Nat.zero_add, Nat.mul_one, Nat.one_ne_zero, Nat.zero_le, highP, lowP, Option.map_some, Option.map_none, List.drop_zero, List.take_zero, List.length_cons, List.length_nil, List.nil_append, List.append_nil, List.cons_append, fillP, PV.cells?, PV.one, PV.cleans, PV.clean, PV.of?, List.all_cons, List.all_nil, List.take_succ_cons, List.drop_succ_cons, Bool.and_self, Int.natCast_nonneg, Int.toNat_natCast, Int.toNat_zero, PV.of?, Tk.ren, tailP, evL_loop, or_true, true_or, Nat.zero_lt_one, Nat.sub_zero, List.getElem?_cons_zero, List.getElem?_cons_succ, List.set_cons_zero, List.set_cons_succ, List.take_length, PV.rens, PV.ren, bH, g1, h1, gf, z3, w1, k1, k2, evS_yes, evS1_nx]
          rw [show ∀ k, PV.sl (.tok k) 1 ((flatF D).length + (recx ++ hopT).length) ((flatF D).map b8 ++ (recx ++ hopT).map b8) = PV.sl (.tok k) 1 (flatF (D ++ hF true)).length ((flatF (D ++ hF true)).map b8) from k3]
        | false =>
          rw [e2] at k1 k2
          simp only [q6_2, q6_1, q6_0, ← hopT_def, ← recx_def, ← recd_def, evL_op, evL_sel, evL_nx, evL_exit, evL_ret, evL_join, evL_block, evL_cond, evK_some, evJ_nx, evJ_rt, evJ_ex, evB_nx, evB_rt, evB_ex, evC2_bool, evS_and, evS_or, evS_tf, evS_ft, ev_t, ev_s, ev_c, evalOp, bin_add, bin_sub, bin_mul, bin_eql, bin_neq, bin_lss, bin_leq, bin_gtr, bin_geq, sbin_eql, sbin_neq, b8, List.map_cons, List.map_nil, PV.rens, PV.ren, if_true, if_false, Bool.false_eq_true, reduceIte, Nat.reduceAdd, Nat.reduceSub, Nat.reduceMul, Nat.reduceEqDiff, Nat.reduceLeDiff, Int.reduceLE, Int.reduceLT, Int.reduceEq, Int.reduceToNat, Int.reduceAdd, Int.reduceSub, Int.reduceNeg, decide_true, decide_false, Bool.not_true, Bool.not_false, Bool.true_and, Bool.false_and, Bool.and_true, Bool.and_false, Bool.or_true, Bool.true_or, Bool.or_false, Bool.false_or, and_self, and_true, true_and, Nat.le_refl, Nat.zero_add, Nat.mul_one, Nat.one_ne_zero, Nat.zero_le, highP, lowP, Option.map_some, Option.map_none, List.drop_zero, List.take_zero, List.length_cons, List.length_nil, List.nil_append, List.append_nil, List.cons_append, fillP, PV.cells?, PV.one, PV.cleans, PV.clean, PV.of?, List.all_cons, List.all_nil, List.take_succ_cons, List.drop_succ_cons, Bool.and_self, Int.natCast_nonneg, Int.toNat_natCast, Int.toNat_zero, PV.of?, Tk.ren, tailP, evL_loop, or_true, true_or, Nat.zero_lt_one, Nat.sub_zero, List.getElem?_cons_zero, List.getElem?_cons_succ, List.set_cons_zero, List.set_cons_succ, List.take_length, PV.rens, PV.ren, bH, g1, h1, gf, z3, w1, k1, k2, evS_yes, evS1_nx]
          rw [show ∀ k, PV.sl (.tok k) 1 ((flatF D).length + (recd ++ hopT).length) ((flatF D).map b8 ++ (recd ++ hopT).map b8) = PV.sl (.tok k) 1 (flatF (D ++ hF false)).length ((flatF (D ++ hF false)).map b8) from k3]
      · unfold bH; rw [if_neg (by omega)]; rfl
    · have k1 := key false
      have k2 := a1 false
      have k3 := fin false
      rw [e2] at k1 k2
      refine .inr ⟨(i + 1, D ++ hF false), [.int .i64 m, .sl .no 1 fs.length (fs.map fun b => .bool b), .sl (.tok 1) 1 (flatF (D ++ hF false)).length ((flatF (D ++ hF false)).map b8), .int .i64 ((i + 1 : Nat) : Int)], [.dead, .tok], ?_, ?_, hst false, by dsimp only; omega⟩
      · simp only [q6_2, q6_1, q6_0, ← hopT_def, ← recx_def, ← recd_def, evL_op, evL_sel, evL_nx, evL_exit, evL_ret, evL_join, evL_block, evL_cond, evK_some, evJ_nx, evJ_rt, evJ_ex, evB_nx, evB_rt, evB_ex, evC2_bool, evS_and, evS_or, evS_tf, evS_ft, ev_t, ev_s, ev_c, evalOp, bin_add, bin_sub, bin_mul, bin_eql, bin_neq, bin_lss, bin_leq, bin_gtr, bin_geq, sbin_eql, sbin_neq, b8, List.map_cons, List.map_nil, PV.rens, PV.ren, if_true, if_false, Bool.false_eq_true, reduceIte, Nat.reduceAdd, Nat.reduceSub, Nat.reduceMul, Nat.reduceEqDiff, Nat.reduceLeDiff, Int.reduceLE, Int.reduceLT, Int.reduceEq, Int.reduceToNat, Int.reduceAdd, Int.reduceSub, Int.reduceNeg, decide_true, decide_false, Bool.not_true, Bool.not_false, Bool.true_and, Bool.false_and, Bool.and_true, Bool.and_false, Bool.or_true, Bool.true_or, Bool.or_false, Bool.false_or, and_self, and_true, true_and, Nat.le_refl, Nat.zero_add, Nat.mul_one, Nat.one_ne_zero, Nat.zero_le, highP, lowP, Option.map_some, Option.map_none, List.drop_zero, List.take_zero, List.length_cons, List.length_nil, List.nil_append, List.append_nil, List.cons_append, fillP, PV.cells?, PV.one, PV.cleans, PV.clean, PV.of?, List.all_cons, List.all_nil, List.take_succ_cons, List.drop_succ_cons, Bool.and_self, Int.natCast_nonneg, Int.toNat_natCast, Int.toNat_zero, PV.of?, Tk.ren, tailP, evL_loop, or_true, true_or, Nat.zero_lt_one, Nat.sub_zero, List.getElem?_cons_zero, List.getElem?_cons_succ, List.set_cons_zero, List.set_cons_succ, List.take_length, PV.rens, PV.ren, bH, g1, h1, z3, w1, k1, k2, evS_yes, evS1_nx]
        rw [show ∀ k, PV.sl (.tok k) 1 ((flatF D).length + (recd ++ hopT).length) ((flatF D).map b8 ++ (recd ++ hopT).map b8) = PV.sl (.tok k) 1 (flatF (D ++ hF false)).length ((flatF (D ++ hF false)).map b8) from k3]
      · unfold bH; rw [if_neg (by omega)]; rfl
  · refine .inl ⟨_, ?_, ?_, (if i = 0 then 0 else 1), D, hD, by omega, by omega, by split <;> simp, rfl⟩
    · have g1 : ¬ (i : Int) < m := by omega
      simp only [q6_2, evL_op, evL_sel, evL_nx, evL_exit, evL_ret, evL_join, evL_block, evL_cond, evK_some, evJ_nx, evJ_rt, evJ_ex, evB_nx, evB_rt, evB_ex, evC2_bool, evS_and, evS_or, evS_tf, evS_ft, ev_t, ev_s, ev_c, evalOp, bin_add, bin_sub, bin_mul, bin_eql, bin_neq, bin_lss, bin_leq, bin_gtr, bin_geq, sbin_eql, sbin_neq, b8, List.map_cons, List.map_nil, PV.rens, PV.ren, if_true, if_false, Bool.false_eq_true, reduceIte, Nat.reduceAdd, Nat.reduceSub, Nat.reduceMul, Nat.reduceEqDiff, Nat.reduceLeDiff, Int.reduceLE, Int.reduceLT, Int.reduceEq, Int.reduceToNat, Int.reduceAdd, Int.reduceSub, Int.reduceNeg, decide_true, decide_false, Bool.not_true, Bool.not_false, Bool.true_and, Bool.false_and, Bool.and_true, Bool.and_false, Bool.or_true, Bool.true_or, Bool.or_false, Bool.false_or, and_self, and_true, true_and, Nat.le_refl, Nat.zero_add, Nat.mul_one, Nat.one_ne_zero, Nat.zero_le, highP, lowP, Option.map_some, Option.map_none, List.drop_zero, List.take_zero, List.length_cons, List.length_nil, List.nil_append, List.append_nil, List.cons_append, fillP, PV.cells?, PV.one, PV.cleans, PV.clean, PV.of?, List.all_cons, List.all_nil, List.take_succ_cons, List.drop_succ_cons, Bool.and_self, Int.natCast_nonneg, Int.toNat_natCast, Int.toNat_zero, PV.of?, Tk.ren, tailP, evL_loop, or_true, true_or, Nat.zero_lt_one, Nat.sub_zero, List.getElem?_cons_zero, List.getElem?_cons_succ, List.set_cons_zero, List.set_cons_succ, List.take_length, bH, g1]
    · simp
end
theorem lawHeadHops (n : Int) (hn : (Lit.int .i64 n).wf = true) (fs : List Bool) (hf : fs.length ≤ room ∧ ∀ y ∈ fs, True) (a : Int) (ha : (Lit.int .i64 a).wf = true) :
    evT lt ov 6 [.int .i64 n, .sl .no 1 fs.length (fs.map fun b => .bool b), .int .i64 a] [] = some (.bool true, []) := by
  show T 6 [.int .i64 n, .sl .no 1 fs.length (fs.map fun b => .bool b), .int .i64 a] [] = _
  have fin : ∀ {H : Hp}, evL T 13 q6 [.int .i64 n, .sl .no 1 fs.length (fs.map fun b => .bool b), .int .i64 a] [] = some (.rt, [.bool true], H) → T 6 [.int .i64 n, .sl .no 1 fs.length (fs.map fun b => .bool b), .int .i64 a] [] = some (.bool true, []) := fun {H} h =>
    evT_of (k := 13) (F := l6) (H' := H) (e := [.bool true]) (l := [.bool true]) rfl rfl rfl h rfl rfl
  obtain ⟨m, h12, hm⟩ : ∃ m : Nat, m < 12 ∧ (IntKind.u64.wrap n).tmod 12 = (m : Int) := by
    have h0 : 0 ≤ IntKind.u64.wrap n := by
      have : IntKind.u64.wrap n = n % 18446744073709551616 := rfl
      rw [this]; omega
    refine ⟨((IntKind.u64.wrap n).tmod 12).toNat, ?_, ?_⟩ <;> rw [Int.tmod_eq_emod_of_nonneg h0] <;> omega
  have wm : IntKind.i64.wrap (m : Int) = (m : Int) := wr (by omega) (by omega)
  have r1 : ∀ z : Int, binP .rem (.int .u64 z) (.int .u64 12) = some (.int .u64 (z.tmod 12)) := fun z => bin_rem (by decide)
  obtain ⟨z, D, hD, hh, hl, hz, lp⟩ := loop_hopsL fs m h12 13
  have hrb : body [82, 101, 99, 101, 105, 118, 101, 100, 58, 32, 122, 13, 10] = true := by decide +kernel
  obtain ⟨t1, t2⟩ := flat_text hD hrb
  have e0 : flatF D ++ [13, 10] ++ [82, 101, 99, 101, 105, 118, 101, 100, 58, 32, 122, 13, 10] = flatF D ++ endH := by rw [List.append_assoc]; rfl
  rw [e0] at t1 t2
  have k17 := T17_yes (flatF D ++ endH) (by rw [List.length_append]; have : endH.length = 15 := rfl; omega) t1
  rw [t2] at k17
  dsimp only at k17
  rw [hh] at k17
  unfold sl8 at k17
  rw [List.length_append, List.map_append] at k17
  have r2 : (flatF D).length + endH.length ≤ roomMax := by unfold roomMax; have : endH.length = 15 := rfl; omega
  have s1 := Stamp_dom [97, 32, 98] [120] (by decide) (by decide +kernel) 1
  have s2 := Stamp_time [97] [120] (by decide) (by decide +kernel) 1099511627777 (.inr (by decide))
  have s3 := Stamp_yes [97] [120] (by decide) (by decide +kernel) 1099511627776 (by decide)
  have s4 := Stamp_time [97] [120] (by decide) (by decide +kernel) (-1) (.inl (by decide))
  rw [stampBig] at s3
  have s3' : T 18 [.str [97], .str [120], .int .i64 1099511627776] [] = some (.tup [.sl (.tok 0) 1 49 (sBig.map b8), .int .i64 0], [.tok]) := s3
  have e9 := bytes8_map sBig
  have g2 : ¬ 49 = 0 := by decide
  generalize hM : sBig.map b8 = M at *
  apply fin
  simp only [q6, evL_op, evL_sel, evL_nx, evL_exit, evL_ret, evL_join, evL_block, evL_cond, evK_some, evJ_nx, evJ_rt, evJ_ex, evB_nx, evB_rt, evB_ex, evC2_bool, evS_and, evS_or, evS_tf, evS_ft, ev_t, ev_s, ev_c, evalOp, bin_add, bin_sub, bin_mul, bin_eql, bin_neq, bin_lss, bin_leq, bin_gtr, bin_geq, sbin_eql, sbin_neq, b8, List.map_cons, List.map_nil, PV.rens, PV.ren, if_true, if_false, Bool.false_eq_true, reduceIte, Nat.reduceAdd, Nat.reduceSub, Nat.reduceMul, Nat.reduceEqDiff, Nat.reduceLeDiff, Int.reduceLE, Int.reduceLT, Int.reduceEq, Int.reduceToNat, Int.reduceAdd, Int.reduceSub, Int.reduceNeg, decide_true, decide_false, Bool.not_true, Bool.not_false, Bool.true_and, Bool.false_and, Bool.and_true, Bool.and_false, Bool.or_true, Bool.true_or, Bool.or_false, Bool.false_or, and_self, and_true, true_and, Nat.le_refl, Nat.zero_add, Nat.mul_one, Nat.one_ne_zero, Nat.zero_le, highP, lowP, Option.map_some, Option.map_none, List.drop_zero, List.take_zero, List.length_cons, List.length_nil, List.nil_append, List.append_nil, List.cons_append, fillP, PV.cells?, PV.one, PV.cleans, PV.clean, PV.of?, List.all_cons, List.all_nil, List.take_succ_cons, List.drop_succ_cons, Bool.and_self, Int.natCast_nonneg, Int.toNat_natCast, Int.toNat_zero, PV.of?, Tk.ren, tailP, evL_loop, or_true, true_or, Nat.zero_lt_one, Nat.sub_zero, List.getElem?_cons_zero, List.getElem?_cons_succ, List.set_cons_zero, List.set_cons_succ, List.take_length, PV.rens, PV.ren, r1, hm, wm]
  rw [lp]
  simp only [q6_3, ← endH_def, ← sBig_def, evL_op, evL_sel, evL_nx, evL_exit, evL_ret, evL_join, evL_block, evL_cond, evK_some, evJ_nx, evJ_rt, evJ_ex, evB_nx, evB_rt, evB_ex, evC2_bool, evS_and, evS_or, evS_tf, evS_ft, ev_t, ev_s, ev_c, evalOp, bin_add, bin_sub, bin_mul, bin_eql, bin_neq, bin_lss, bin_leq, bin_gtr, bin_geq, sbin_eql, sbin_neq, b8, List.map_cons, List.map_nil, PV.rens, PV.ren, if_true, if_false, Bool.false_eq_true, reduceIte, Nat.reduceAdd, Nat.reduceSub, Nat.reduceMul, Nat.reduceEqDiff, Nat.reduceLeDiff, Int.reduceLE, Int.reduceLT, Int.reduceEq, Int.reduceToNat, Int.reduceAdd, Int.reduceSub, Int.reduceNeg, decide_true, decide_false, Bool.not_true, Bool.not_false, Bool.true_and, Bool.false_and, Bool.and_true, Bool.and_false, Bool.or_true, Bool.true_or, Bool.or_false, Bool.false_or, and_self, and_true, true_and, Nat.le_refl, Nat.zero_add, Nat.mul_one, Nat.one_ne_zero, Nat.zero_le, highP, lowP, Option.map_some, Option.map_none, List.drop_zero, List.take_zero, List.length_cons, List.length_nil, List.nil_append, List.append_nil, List.cons_append, fillP, PV.cells?, PV.one, PV.cleans, PV.clean, PV.of?, List.all_cons, List.all_nil, List.take_succ_cons, List.drop_succ_cons, Bool.and_self, Int.natCast_nonneg, Int.toNat_natCast, Int.toNat_zero, PV.of?, Tk.ren, tailP, evL_loop, or_true, true_or, Nat.zero_lt_one, Nat.sub_zero, List.getElem?_cons_zero, List.getElem?_cons_succ, List.set_cons_zero, List.set_cons_succ, List.take_length, PV.rens, PV.ren, hz, r2, k17, s1, s2, s3', s4, e9, g2, Nat.one_mul, shift, Nat.add_zero, T_wakes, beq_self_eq_true, eq_self, o0, o1, w00] <;> rfl
end Go.Proofs.YtmdnloajpjfbmaaDoor.Tab
