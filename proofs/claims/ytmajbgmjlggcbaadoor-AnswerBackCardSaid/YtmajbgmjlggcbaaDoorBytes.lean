/- Replies: their bytes. -/
import Derived.Test.YtmajbgmjlggcbaaDoorReply2
import Derived.Test.YtmajbgmjlggcbaaDoorLines
namespace Go.Proofs.YtmajbgmjlggcbaaDoor.Tab
set_option linter.all false
open Go Go.RowKit Go.Proofs.YtmajbgmjlggcbaaDoor.Ev
def dg (u : Nat) : List UInt8 := Lib.decDigits u
theorem T_appU (u : Nat) (hu : 100 ≤ u) (hu2 : u < 1000000) (z n : Nat) (cs : List PV) (hz : z = 1 ∨ z = 0) (hr : n + (dg u).length ≤ roomMax) :
    T 35 [.sl (.tok 0) z n cs, .int .u64 u, .int .i64 10] [.tok] = some (.sl (.tok 2) 1 (n + (dg u).length) (cs ++ (dg u).map b8), [.dead, .tok, .tok]) := by
  refine evT_ov (φ := ovAppU) rfl ?_
  simp only [ovAppU]
  rw [if_pos ⟨by omega, by omega⟩, Int.toNat_natCast]
  have h1 : ((dg u).length = 0 ∨ 1 = 1) ∧ (z = 1 ∨ z = 0) ∧ (n + (dg u).length) * 1 ≤ roomMax := ⟨.inr rfl, hz, by omega⟩
  unfold dg at *
  simp only [evL_op, evL_sel, evL_nx, evL_exit, evL_ret, evL_join, evL_block, evL_cond, evK_some, evJ_nx, evJ_rt, evJ_ex, evB_nx, evB_rt, evB_ex, evC2_bool, evS_and, evS_or, evS_tf, evS_ft, ev_t, ev_s, ev_c, evalOp, bin_add, bin_sub, bin_mul, bin_eql, bin_neq, bin_lss, bin_leq, bin_gtr, bin_geq, sbin_eql, sbin_neq, b8, List.map_cons, List.map_nil, PV.rens, PV.ren, if_true, if_false, Bool.false_eq_true, reduceIte, Nat.reduceAdd, Nat.reduceSub, Nat.reduceMul, Nat.reduceEqDiff, Nat.reduceLeDiff, Int.reduceLE, Int.reduceLT, Int.reduceEq, Int.reduceToNat, Int.reduceAdd, Int.reduceSub, Int.reduceNeg, decide_true, decide_false, Bool.not_true, Bool.not_false, Bool.true_and, Bool.false_and, Bool.and_true, Bool.and_false, Bool.or_true, Bool.true_or, Bool.or_false, Bool.false_or, and_self, and_true, true_and, Nat.le_refl, Nat.zero_add, Nat.mul_one, Nat.one_ne_zero, Nat.zero_le, highP, lowP, Option.map_some, Option.map_none, List.drop_zero, List.take_zero, List.length_cons, List.length_nil, List.nil_append, List.append_nil, List.cons_append, fillP, PV.cells?, PV.one, PV.cleans, PV.clean, PV.of?, List.all_cons, List.all_nil, List.take_succ_cons, List.drop_succ_cons, Bool.and_self, Int.natCast_nonneg, Int.toNat_natCast, Int.toNat_zero, PV.of?, Tk.ren, tailP, evL_loop, or_true, true_or, Nat.zero_lt_one, Nat.sub_zero, List.getElem?_cons_zero, List.getElem?_cons_succ, List.set_cons_zero, List.set_cons_succ, List.take_length, tailP, h1, hr]
  try rfl
theorem T_appI (u : Nat) (hu : 100 ≤ u) (hu2 : u < 1000000) (z n : Nat) (cs : List PV) (hz : z = 1 ∨ z = 0) (hr : n + (dg u).length ≤ roomMax) :
    T 30 [.sl (.tok 0) z n cs, .int .i64 u, .int .i64 10] [.tok] = some (.sl (.tok 1) 1 (n + (dg u).length) (cs ++ (dg u).map b8), [.dead, .tok]) := by
  have c1 := T_appU u hu hu2 z n cs hz hr
  refine evT_of (k := 0) (F := l30) (H' := [.dead, .tok, .tok]) (e := [.sl (.tok 2) 1 (n + (dg u).length) (cs ++ (dg u).map b8)]) (l := [.sl (.tok 2) 1 (n + (dg u).length) (cs ++ (dg u).map b8)]) rfl rfl rfl ?_ rfl rfl
  show evL T 0 q30 _ _ = _
  have h1 : ¬ (u : Int) < 0 := by omega
  have w : IntKind.u64.wrap (u : Int) = (u : Int) := by
    show (u : Int) % 18446744073709551616 = u
    omega
  simp only [q30, q30_0, evL_op, evL_sel, evL_nx, evL_exit, evL_ret, evL_join, evL_block, evL_cond, evK_some, evJ_nx, evJ_rt, evJ_ex, evB_nx, evB_rt, evB_ex, evC2_bool, evS_and, evS_or, evS_tf, evS_ft, ev_t, ev_s, ev_c, evalOp, bin_add, bin_sub, bin_mul, bin_eql, bin_neq, bin_lss, bin_leq, bin_gtr, bin_geq, sbin_eql, sbin_neq, b8, List.map_cons, List.map_nil, PV.rens, PV.ren, if_true, if_false, Bool.false_eq_true, reduceIte, Nat.reduceAdd, Nat.reduceSub, Nat.reduceMul, Nat.reduceEqDiff, Nat.reduceLeDiff, Int.reduceLE, Int.reduceLT, Int.reduceEq, Int.reduceToNat, Int.reduceAdd, Int.reduceSub, Int.reduceNeg, decide_true, decide_false, Bool.not_true, Bool.not_false, Bool.true_and, Bool.false_and, Bool.and_true, Bool.and_false, Bool.or_true, Bool.true_or, Bool.or_false, Bool.false_or, and_self, and_true, true_and, Nat.le_refl, Nat.zero_add, Nat.mul_one, Nat.one_ne_zero, Nat.zero_le, highP, lowP, Option.map_some, Option.map_none, List.drop_zero, List.take_zero, List.length_cons, List.length_nil, List.nil_append, List.append_nil, List.cons_append, fillP, PV.cells?, PV.one, PV.cleans, PV.clean, PV.of?, List.all_cons, List.all_nil, List.take_succ_cons, List.drop_succ_cons, Bool.and_self, Int.natCast_nonneg, Int.toNat_natCast, Int.toNat_zero, PV.of?, Tk.ren, tailP, evL_loop, or_true, true_or, Nat.zero_lt_one, Nat.sub_zero, List.getElem?_cons_zero, List.getElem?_cons_succ, List.set_cons_zero, List.set_cons_succ, List.take_length, h1, w, c1]
theorem T21 (u : Nat) (hu : 100 ≤ u) (hu2 : u < 1000000) (z n : Nat) (cs : List PV) (hz : z = 1 ∨ z = 0) (hr : n + (dg u).length ≤ roomMax) :
    T 21 [.sl (.tok 0) z n cs, .int .i64 u, .int .i64 10] [.tok] = some (.sl (.tok 1) 1 (n + (dg u).length) (cs ++ (dg u).map b8), [.dead, .tok]) := by
  have c1 := T_appI u hu hu2 z n cs hz hr
  refine evT_of (k := 0) (F := l21) (H' := [.dead, .tok]) (e := [.sl (.tok 1) 1 (n + (dg u).length) (cs ++ (dg u).map b8)]) (l := [.sl (.tok 1) 1 (n + (dg u).length) (cs ++ (dg u).map b8)]) rfl rfl rfl ?_ rfl rfl
  show evL T 0 q21 _ _ = _
  simp only [q21, evL_op, evL_sel, evL_nx, evL_exit, evL_ret, evL_join, evL_block, evL_cond, evK_some, evJ_nx, evJ_rt, evJ_ex, evB_nx, evB_rt, evB_ex, evC2_bool, evS_and, evS_or, evS_tf, evS_ft, ev_t, ev_s, ev_c, evalOp, bin_add, bin_sub, bin_mul, bin_eql, bin_neq, bin_lss, bin_leq, bin_gtr, bin_geq, sbin_eql, sbin_neq, b8, List.map_cons, List.map_nil, PV.rens, PV.ren, if_true, if_false, Bool.false_eq_true, reduceIte, Nat.reduceAdd, Nat.reduceSub, Nat.reduceMul, Nat.reduceEqDiff, Nat.reduceLeDiff, Int.reduceLE, Int.reduceLT, Int.reduceEq, Int.reduceToNat, Int.reduceAdd, Int.reduceSub, Int.reduceNeg, decide_true, decide_false, Bool.not_true, Bool.not_false, Bool.true_and, Bool.false_and, Bool.and_true, Bool.and_false, Bool.or_true, Bool.true_or, Bool.or_false, Bool.false_or, and_self, and_true, true_and, Nat.le_refl, Nat.zero_add, Nat.mul_one, Nat.one_ne_zero, Nat.zero_le, highP, lowP, Option.map_some, Option.map_none, List.drop_zero, List.take_zero, List.length_cons, List.length_nil, List.nil_append, List.append_nil, List.cons_append, fillP, PV.cells?, PV.one, PV.cleans, PV.clean, PV.of?, List.all_cons, List.all_nil, List.take_succ_cons, List.drop_succ_cons, Bool.and_self, Int.natCast_nonneg, Int.toNat_natCast, Int.toNat_zero, PV.of?, Tk.ren, tailP, evL_loop, or_true, true_or, Nat.zero_lt_one, Nat.sub_zero, List.getElem?_cons_zero, List.getElem?_cons_succ, List.set_cons_zero, List.set_cons_succ, List.take_length, c1]
/-- A reply's lines as they are written. -/
def mk (d : List UInt8) : List (List UInt8) → List (List UInt8)
  | [] => []
  | [s] => [d ++ 32 :: s]
  | s :: t :: r => (d ++ 45 :: s) :: mk d (t :: r)
theorem mk_len (d : List UInt8) : ∀ l, (mk d l).length = l.length
  | [] => rfl
  | [s] => rfl
  | s :: t :: r => by rw [mk, List.length_cons, mk_len d (t :: r)]; rfl
def mark (l : List (List UInt8)) (i : Nat) : UInt8 := if i + 1 = l.length then 32 else 45
theorem mk_get (d : List UInt8) : ∀ (l : List (List UInt8)) (i : Nat) (h : i < l.length), (mk d l)[i]? = some (d ++ mark l i :: l[i])
  | [], i, h => by cases h
  | [s], 0, _ => rfl
  | [s], i + 1, h => by simp at h
  | s :: t :: r, 0, _ => by rw [mk]; unfold mark; rw [if_neg (by simp)]; rfl
  | s :: t :: r, i + 1, h => by
    rw [mk, List.getElem?_cons_succ, mk_get d (t :: r) i (by simpa using h)]
    have : mark (t :: r) i = mark (s :: t :: r) (i + 1) := by unfold mark; simp
    rw [this]
    simp
def acc (d : List UInt8) (l : List (List UInt8)) (i : Nat) : List UInt8 := join ((mk d l).take i)
theorem acc_succ (d : List UInt8) {l : List (List UInt8)} {i : Nat} (h : i < l.length) : acc d l (i + 1) = acc d l i ++ (d ++ mark l i :: (l[i] ++ [13, 10])) := by
  have hm := mk_get d l i h
  unfold acc
  obtain ⟨h1, h2⟩ := List.getElem?_eq_some_iff.1 hm
  rw [List.take_succ_eq_append_getElem h1, h2, join_app, join_one]
  simp
theorem acc_all (d : List UInt8) (l : List (List UInt8)) : acc d l l.length = join (mk d l) := by
  unfold acc; rw [← mk_len d l, List.take_length]
theorem acc_len (d : List UInt8) (l : List (List UInt8)) (hd : d.length ≤ 13) (hl : ∀ x ∈ l, x.length ≤ 200) : ∀ i, i ≤ l.length → (acc d l i).length ≤ 300 * i
  | 0, _ => by simp [acc, join]
  | i + 1, h => by
    have ih := acc_len d l hd hl i (by omega)
    have hx := hl _ (List.getElem_mem (show i < l.length by omega))
    rw [acc_succ d (by omega)]
    simp only [List.length_append, List.length_cons, List.length_nil]
    omega
theorem dg_len (u : Nat) (h : u ≤ 1099511627776) : (dg u).length ≤ 13 := by
  have := itoa_len u h
  rw [itoa_nat] at this
  exact this
def oB (d : List UInt8) (l : List (List UInt8)) (i : Nat) : PV := .sl (.tok 0) (if i = 0 then 0 else 1) (acc d l i).length ((acc d l i).map b8)
theorem replyOk_facts {c : Int} {l : List (List UInt8)} (h : replyOk c l = true) : ∃ u : Nat, c = u ∧ 200 ≤ u ∧ u ≤ 559 ∧ 1 ≤ l.length ∧ l.length ≤ 20 ∧ ∀ x ∈ l, x.all chC = true ∧ x.length ≤ 200 := by
  unfold replyOk codeOk at h
  simp only [Bool.and_eq_true, Bool.not_eq_true', decide_eq_true_eq, decide_eq_false_iff_not] at h
  obtain ⟨⟨⟨⟨⟨h1, h2⟩, _⟩, h4⟩, h5⟩, h6⟩ := h
  refine ⟨c.toNat, by omega, by omega, by omega, by omega, by omega, fun x hx => ?_⟩
  have := List.all_eq_true.1 h6 x hx
  unfold plainS at this
  simp only [Bool.and_eq_true, decide_eq_true_eq] at this
  exact ⟨this.1, by omega⟩
/-- A reply's bytes. -/
def rb (c : Int) (l : List (List UInt8)) : List UInt8 := join (mk (dg c.toNat) l)
theorem rb_len {c : Int} {l : List (List UInt8)} (h : replyOk c l = true) : (rb c l).length ≤ 6000 := by
  obtain ⟨u, rfl, hu1, hu2, _, h20, hx⟩ := replyOk_facts h
  have := acc_len (dg u) l (dg_len u (by omega)) (fun x hx' => (hx x hx').2) l.length (Nat.le_refl _)
  rw [acc_all] at this
  unfold rb
  rw [Int.toNat_natCast]
  omega
theorem Bytes_no (c : Int) (l : List (List UInt8)) (hl : ∀ x ∈ l, x.length ≤ 9000000000000000000) (h : replyOk c l = false) : T 10 [.agg [.int .i64 c, slS l]] [] = some (.tup [.sl .nil 0 0 [], .int .i64 5], []) := by
  have c1 := T14 c l hl
  rw [h] at c1
  refine evT_of (k := 0) (F := l10) (H' := []) (e := [.sl .nil 0 0 [], .int .i64 5]) (l := [.sl .nil 0 0 [], .int .i64 5]) rfl rfl rfl ?_ rfl rfl
  show evL T 0 q10 _ _ = _
  simp only [q10, evL_op, evL_sel, evL_nx, evL_exit, evL_ret, evL_join, evL_block, evL_cond, evK_some, evJ_nx, evJ_rt, evJ_ex, evB_nx, evB_rt, evB_ex, evC2_bool, evS_and, evS_or, evS_tf, evS_ft, ev_t, ev_s, ev_c, evalOp, bin_add, bin_sub, bin_mul, bin_eql, bin_neq, bin_lss, bin_leq, bin_gtr, bin_geq, sbin_eql, sbin_neq, b8, List.map_cons, List.map_nil, PV.rens, PV.ren, if_true, if_false, Bool.false_eq_true, reduceIte, Nat.reduceAdd, Nat.reduceSub, Nat.reduceMul, Nat.reduceEqDiff, Nat.reduceLeDiff, Int.reduceLE, Int.reduceLT, Int.reduceEq, Int.reduceToNat, Int.reduceAdd, Int.reduceSub, Int.reduceNeg, decide_true, decide_false, Bool.not_true, Bool.not_false, Bool.true_and, Bool.false_and, Bool.and_true, Bool.and_false, Bool.or_true, Bool.true_or, Bool.or_false, Bool.false_or, and_self, and_true, true_and, Nat.le_refl, Nat.zero_add, Nat.mul_one, Nat.one_ne_zero, Nat.zero_le, highP, lowP, Option.map_some, Option.map_none, List.drop_zero, List.take_zero, List.length_cons, List.length_nil, List.nil_append, List.append_nil, List.cons_append, fillP, PV.cells?, PV.one, PV.cleans, PV.clean, PV.of?, List.all_cons, List.all_nil, List.take_succ_cons, List.drop_succ_cons, Bool.and_self, Int.natCast_nonneg, Int.toNat_natCast, Int.toNat_zero, PV.of?, Tk.ren, tailP, evL_loop, or_true, true_or, Nat.zero_lt_one, Nat.sub_zero, List.getElem?_cons_zero, List.getElem?_cons_succ, List.set_cons_zero, List.set_cons_succ, List.take_length, PV.rens, PV.ren, c1, PV.cells?]
theorem Bytes_yes (c : Int) (l : List (List UInt8)) (h : replyOk c l = true) : T 10 [.agg [.int .i64 c, slS l]] [] = some (.tup [.sl (.tok 0) 1 (rb c l).length ((rb c l).map b8), .int .i64 0], [.tok]) := by
  have hf := replyOk_facts h
  have hx9 : ∀ x ∈ l, x.length ≤ 9000000000000000000 := fun x hx => by obtain ⟨_, _, _, _, _, _, h6⟩ := hf; have := (h6 x hx).2; omega
  have c1 := T14 c l hx9
  rw [h] at c1
  obtain ⟨u, rfl, hu1, hu2, hl1, h20, hx⟩ := hf
  have hdl := dg_len u (by omega)
  refine evT_of (k := 21) (F := l10) (H' := [.tok]) (e := [.sl (.tok 0) 1 (rb u l).length ((rb u l).map b8), .int .i64 0]) (l := [.sl (.tok 0) 1 (rb u l).length ((rb u l).map b8), .int .i64 0]) rfl rfl rfl ?_ rfl rfl
  show evL T 21 q10 _ _ = _
  have lp := loop_law (n := 0) (body := evL T 21 q10_2) (σ := Nat) (fun i => [epR u l, oB (dg u) l i, slS l, .int .i64 l.length, .int .i64 i]) (fun _ => [.tok]) (fun i => l.length - i) (fun i => i ≤ l.length)
    (fun _ => (.ex 0, [oB (dg u) l l.length], [.tok])) (by
      intro i hi
      rcases Nat.lt_or_ge i l.length with h | h
      · have h3 : (i : Int) < l.length := by omega
        have hg := get_s h
        have hal := acc_len (dg u) l hdl (fun x hx' => (hx x hx').2) i (by omega)
        have hsx := (hx _ (List.getElem_mem h)).2
        have has := acc_succ (dg u) h
        have w0 : IntKind.i64.wrap ((l.length : Int) - 1) = ((l.length - 1 : Nat) : Int) := by rw [wr (by omega) (by omega)]; omega
        have w1 := wr1 (show i < 9223372036854775807 by omega)
        generalize l[i] = s at *
        have hz : (if i = 0 then 0 else 1) = 1 ∨ (if i = 0 then 0 else 1) = 0 := by split <;> simp
        have c2 := T21 u (by omega) (by omega) (if i = 0 then 0 else 1) (acc (dg u) l i).length ((acc (dg u) l i).map b8) hz (by unfold roomMax; omega)
        have r1 : (acc (dg u) l i).length + (dg u).length + 1 ≤ roomMax := by unfold roomMax; omega
        have r2 : (acc (dg u) l i).length + (dg u).length + 1 + s.length ≤ roomMax := by unfold roomMax; omega
        have r3 : (acc (dg u) l i).length + (dg u).length + 1 + s.length + 2 ≤ roomMax := by unfold roomMax; omega
        have hlen : (acc (dg u) l (i + 1)).length = (acc (dg u) l i).length + (dg u).length + 1 + s.length + 2 := by rw [has]; simp; omega
        refine .inr ⟨i + 1, [epR u l, .sl (.tok 4) 1 ((acc (dg u) l i).length + (dg u).length + 1 + s.length + 2) ((acc (dg u) l i).map b8 ++ (dg u).map b8 ++ [b8 (mark l i)] ++ s.map b8 ++ [.int .u8 13, .int .u8 10]), slS l, .int .i64 l.length, .int .i64 ((i + 1 : Nat) : Int)], [.dead, .dead, .dead, .dead, .tok], ?_, ?_, h, by omega, rfl⟩
        · by_cases hm : i + 1 = l.length
          · have e1 : decide ((i : Int) = ((l.length - 1 : Nat) : Int)) = true := by simp; omega
            have hmk : mark l i = 32 := if_pos hm
            rw [hmk]
            simp only [q10_2, q10_1, q10_0, evL_op, evL_sel, evL_nx, evL_exit, evL_ret, evL_join, evL_block, evL_cond, evK_some, evJ_nx, evJ_rt, evJ_ex, evB_nx, evB_rt, evB_ex, evC2_bool, evS_and, evS_or, evS_tf, evS_ft, ev_t, ev_s, ev_c, evalOp, bin_add, bin_sub, bin_mul, bin_eql, bin_neq, bin_lss, bin_leq, bin_gtr, bin_geq, sbin_eql, sbin_neq, b8, List.map_cons, List.map_nil, PV.rens, PV.ren, if_true, if_false, Bool.false_eq_true, reduceIte, Nat.reduceAdd, Nat.reduceSub, Nat.reduceMul, Nat.reduceEqDiff, Nat.reduceLeDiff, Int.reduceLE, Int.reduceLT, Int.reduceEq, Int.reduceToNat, Int.reduceAdd, Int.reduceSub, Int.reduceNeg, decide_true, decide_false, Bool.not_true, Bool.not_false, Bool.true_and, Bool.false_and, Bool.and_true, Bool.and_false, Bool.or_true, Bool.true_or, Bool.or_false, Bool.false_or, and_self, and_true, true_and, Nat.le_refl, Nat.zero_add, Nat.mul_one, Nat.one_ne_zero, Nat.zero_le, highP, lowP, Option.map_some, Option.map_none, List.drop_zero, List.take_zero, List.length_cons, List.length_nil, List.nil_append, List.append_nil, List.cons_append, fillP, PV.cells?, PV.one, PV.cleans, PV.clean, PV.of?, List.all_cons, List.all_nil, List.take_succ_cons, List.drop_succ_cons, Bool.and_self, Int.natCast_nonneg, Int.toNat_natCast, Int.toNat_zero, PV.of?, Tk.ren, tailP, evL_loop, or_true, true_or, Nat.zero_lt_one, Nat.sub_zero, List.getElem?_cons_zero, List.getElem?_cons_succ, List.set_cons_zero, List.set_cons_succ, List.take_length, PV.rens, PV.ren, oB, h3, hg, w0, w1, e1, c2, r1, r2, r3]
            rfl
          · have e1 : decide ((i : Int) = ((l.length - 1 : Nat) : Int)) = false := by simp; omega
            have hmk : mark l i = 45 := if_neg hm
            rw [hmk]
            simp only [q10_2, q10_1, q10_0, evL_op, evL_sel, evL_nx, evL_exit, evL_ret, evL_join, evL_block, evL_cond, evK_some, evJ_nx, evJ_rt, evJ_ex, evB_nx, evB_rt, evB_ex, evC2_bool, evS_and, evS_or, evS_tf, evS_ft, ev_t, ev_s, ev_c, evalOp, bin_add, bin_sub, bin_mul, bin_eql, bin_neq, bin_lss, bin_leq, bin_gtr, bin_geq, sbin_eql, sbin_neq, b8, List.map_cons, List.map_nil, PV.rens, PV.ren, if_true, if_false, Bool.false_eq_true, reduceIte, Nat.reduceAdd, Nat.reduceSub, Nat.reduceMul, Nat.reduceEqDiff, Nat.reduceLeDiff, Int.reduceLE, Int.reduceLT, Int.reduceEq, Int.reduceToNat, Int.reduceAdd, Int.reduceSub, Int.reduceNeg, decide_true, decide_false, Bool.not_true, Bool.not_false, Bool.true_and, Bool.false_and, Bool.and_true, Bool.and_false, Bool.or_true, Bool.true_or, Bool.or_false, Bool.false_or, and_self, and_true, true_and, Nat.le_refl, Nat.zero_add, Nat.mul_one, Nat.one_ne_zero, Nat.zero_le, highP, lowP, Option.map_some, Option.map_none, List.drop_zero, List.take_zero, List.length_cons, List.length_nil, List.nil_append, List.append_nil, List.cons_append, fillP, PV.cells?, PV.one, PV.cleans, PV.clean, PV.of?, List.all_cons, List.all_nil, List.take_succ_cons, List.drop_succ_cons, Bool.and_self, Int.natCast_nonneg, Int.toNat_natCast, Int.toNat_zero, PV.of?, Tk.ren, tailP, evL_loop, or_true, true_or, Nat.zero_lt_one, Nat.sub_zero, List.getElem?_cons_zero, List.getElem?_cons_succ, List.set_cons_zero, List.set_cons_succ, List.take_length, PV.rens, PV.ren, oB, h3, hg, w0, w1, e1, c2, r1, r2, r3]
            rfl
        · show _ = ([epR u l, oB (dg u) l (i + 1), slS l, .int .i64 l.length, .int .i64 ((i + 1 : Nat) : Int)], [Ob.tok])
          unfold oB
          rw [if_neg (by omega), hlen, has]
          have : (acc (dg u) l i ++ (dg u ++ mark l i :: (s ++ [13, 10]))).map b8 = (acc (dg u) l i).map b8 ++ (dg u).map b8 ++ [b8 (mark l i)] ++ s.map b8 ++ [.int .u8 13, .int .u8 10] := by
            simp only [List.map_append, List.map_cons, List.map_nil, List.append_assoc, List.cons_append, List.nil_append]
            rfl
          rw [this]
          rfl
      · refine .inl ⟨?_, by simp⟩
        have h3 : ¬ (i : Int) < l.length := by omega
        obtain rfl : i = l.length := by omega
        simp only [q10_2, evL_op, evL_sel, evL_nx, evL_exit, evL_ret, evL_join, evL_block, evL_cond, evK_some, evJ_nx, evJ_rt, evJ_ex, evB_nx, evB_rt, evB_ex, evC2_bool, evS_and, evS_or, evS_tf, evS_ft, ev_t, ev_s, ev_c, evalOp, bin_add, bin_sub, bin_mul, bin_eql, bin_neq, bin_lss, bin_leq, bin_gtr, bin_geq, sbin_eql, sbin_neq, b8, List.map_cons, List.map_nil, PV.rens, PV.ren, if_true, if_false, Bool.false_eq_true, reduceIte, Nat.reduceAdd, Nat.reduceSub, Nat.reduceMul, Nat.reduceEqDiff, Nat.reduceLeDiff, Int.reduceLE, Int.reduceLT, Int.reduceEq, Int.reduceToNat, Int.reduceAdd, Int.reduceSub, Int.reduceNeg, decide_true, decide_false, Bool.not_true, Bool.not_false, Bool.true_and, Bool.false_and, Bool.and_true, Bool.and_false, Bool.or_true, Bool.true_or, Bool.or_false, Bool.false_or, and_self, and_true, true_and, Nat.le_refl, Nat.zero_add, Nat.mul_one, Nat.one_ne_zero, Nat.zero_le, highP, lowP, Option.map_some, Option.map_none, List.drop_zero, List.take_zero, List.length_cons, List.length_nil, List.nil_append, List.append_nil, List.cons_append, fillP, PV.cells?, PV.one, PV.cleans, PV.clean, PV.of?, List.all_cons, List.all_nil, List.take_succ_cons, List.drop_succ_cons, Bool.and_self, Int.natCast_nonneg, Int.toNat_natCast, Int.toNat_zero, PV.of?, Tk.ren, tailP, evL_loop, or_true, true_or, Nat.zero_lt_one, Nat.sub_zero, List.getElem?_cons_zero, List.getElem?_cons_succ, List.set_cons_zero, List.set_cons_succ, List.take_length, oB, h3]) 21 0 [epR u l, .sl .nil 0 0 [], slS l, .int .i64 l.length, .int .i64 (0 : Nat)] [] rfl (Nat.zero_le _) (by omega)
  rw [o0] at lp
  have hb : oB (dg u) l l.length = .sl (.tok 0) 1 (rb u l).length ((rb u l).map b8) := by
    unfold oB rb
    rw [acc_all, if_neg (by omega), Int.toNat_natCast]
  rw [hb] at lp
  simp only [q10, evL_op, evL_sel, evL_nx, evL_exit, evL_ret, evL_join, evL_block, evL_cond, evK_some, evJ_nx, evJ_rt, evJ_ex, evB_nx, evB_rt, evB_ex, evC2_bool, evS_and, evS_or, evS_tf, evS_ft, ev_t, ev_s, ev_c, evalOp, bin_add, bin_sub, bin_mul, bin_eql, bin_neq, bin_lss, bin_leq, bin_gtr, bin_geq, sbin_eql, sbin_neq, b8, List.map_cons, List.map_nil, PV.rens, PV.ren, if_true, if_false, Bool.false_eq_true, reduceIte, Nat.reduceAdd, Nat.reduceSub, Nat.reduceMul, Nat.reduceEqDiff, Nat.reduceLeDiff, Int.reduceLE, Int.reduceLT, Int.reduceEq, Int.reduceToNat, Int.reduceAdd, Int.reduceSub, Int.reduceNeg, decide_true, decide_false, Bool.not_true, Bool.not_false, Bool.true_and, Bool.false_and, Bool.and_true, Bool.and_false, Bool.or_true, Bool.true_or, Bool.or_false, Bool.false_or, and_self, and_true, true_and, Nat.le_refl, Nat.zero_add, Nat.mul_one, Nat.one_ne_zero, Nat.zero_le, highP, lowP, Option.map_some, Option.map_none, List.drop_zero, List.take_zero, List.length_cons, List.length_nil, List.nil_append, List.append_nil, List.cons_append, fillP, PV.cells?, PV.one, PV.cleans, PV.clean, PV.of?, List.all_cons, List.all_nil, List.take_succ_cons, List.drop_succ_cons, Bool.and_self, Int.natCast_nonneg, Int.toNat_natCast, Int.toNat_zero, PV.of?, Tk.ren, tailP, evL_loop, or_true, true_or, Nat.zero_lt_one, Nat.sub_zero, List.getElem?_cons_zero, List.getElem?_cons_succ, List.set_cons_zero, List.set_cons_succ, List.take_length, PV.rens, PV.ren, c1, PV.cells?]
  rw [lp]
  simp only [q10_3, evL_op, evL_sel, evL_nx, evL_exit, evL_ret, evL_join, evL_block, evL_cond, evK_some, evJ_nx, evJ_rt, evJ_ex, evB_nx, evB_rt, evB_ex, evC2_bool, evS_and, evS_or, evS_tf, evS_ft, ev_t, ev_s, ev_c, evalOp, bin_add, bin_sub, bin_mul, bin_eql, bin_neq, bin_lss, bin_leq, bin_gtr, bin_geq, sbin_eql, sbin_neq, b8, List.map_cons, List.map_nil, PV.rens, PV.ren, if_true, if_false, Bool.false_eq_true, reduceIte, Nat.reduceAdd, Nat.reduceSub, Nat.reduceMul, Nat.reduceEqDiff, Nat.reduceLeDiff, Int.reduceLE, Int.reduceLT, Int.reduceEq, Int.reduceToNat, Int.reduceAdd, Int.reduceSub, Int.reduceNeg, decide_true, decide_false, Bool.not_true, Bool.not_false, Bool.true_and, Bool.false_and, Bool.and_true, Bool.and_false, Bool.or_true, Bool.true_or, Bool.or_false, Bool.false_or, and_self, and_true, true_and, Nat.le_refl, Nat.zero_add, Nat.mul_one, Nat.one_ne_zero, Nat.zero_le, highP, lowP, Option.map_some, Option.map_none, List.drop_zero, List.take_zero, List.length_cons, List.length_nil, List.nil_append, List.append_nil, List.cons_append, fillP, PV.cells?, PV.one, PV.cleans, PV.clean, PV.of?, List.all_cons, List.all_nil, List.take_succ_cons, List.drop_succ_cons, Bool.and_self, Int.natCast_nonneg, Int.toNat_natCast, Int.toNat_zero, PV.of?, Tk.ren, tailP, evL_loop, or_true, true_or, Nat.zero_lt_one, Nat.sub_zero, List.getElem?_cons_zero, List.getElem?_cons_succ, List.set_cons_zero, List.set_cons_succ, List.take_length]
end Go.Proofs.YtmajbgmjlggcbaaDoor.Tab
