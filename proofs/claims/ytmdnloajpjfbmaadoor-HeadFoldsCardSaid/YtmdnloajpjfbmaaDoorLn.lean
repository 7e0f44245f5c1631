/- Lines of a text: the law of it, and what dots.Lines and the document's answer tell. -/
import Derived.Test.YtmdnloajpjfbmaaDoorBase
import Derived.Test.YtmdnloajpjfbmaaDoorPathC
namespace Go.Proofs.YtmdnloajpjfbmaaDoor.Tab
set_option linter.all false
open Go Go.RowKit Go.Proofs.YtmdnloajpjfbmaaDoor.Ev
/-! ### the law -/
abbrev nl : List UInt8 := [13, 10]
abbrev nlP : PV := .sl .no 1 2 [.int .u8 13, .int .u8 10]
def NC (l : List UInt8) : Prop := ∀ r, Lib.index (l ++ 13 :: 10 :: r) nl = l.length
def Cl (l : List UInt8) : Prop := ∀ x ∈ l, x ≠ 13 ∧ x ≠ 10
theorem Cl.nil : Cl [] := fun _ h => by cases h
theorem Cl.tail {x : UInt8} {l : List UInt8} (h : Cl (x :: l)) : Cl l := fun y hy => h y (List.mem_cons_of_mem _ hy)
theorem Cl.head {x : UInt8} {l : List UInt8} (h : Cl (x :: l)) : x ≠ 13 ∧ x ≠ 10 := h x List.mem_cons_self
theorem Cl.app {a b : List UInt8} (h : Cl a) (k : Cl b) : Cl (a ++ b) := fun x hx => (List.mem_append.1 hx).elim (h x) (k x)
theorem idx_cons (b : UInt8) (l s : List UInt8) : Lib.index (b :: l) s = if s.isPrefixOf (b :: l) = true then 0 else if Lib.index l s = -1 then -1 else Lib.index l s + 1 := by
  conv => lhs; unfold Lib.index
  by_cases h : s.isPrefixOf (b :: l) = true
  · rw [if_pos h, if_pos h]
  · rw [if_neg h, if_neg h]
    by_cases h2 : Lib.index l s = -1
    · rw [if_pos (by simpa using h2), if_pos h2]
    · rw [if_neg (by simpa using h2), if_neg h2]
theorem pre_nl (b : UInt8) (l : List UInt8) : nl.isPrefixOf (b :: l) = (b == 13 && l.head? == some 10) := by
  cases l with
  | nil => simp [List.isPrefixOf]
  | cons c r =>
    simp only [nl, List.isPrefixOf, List.head?_cons, Bool.and_true]
    rw [show ((13 : UInt8) == b) = (b == 13) from BEq.comm, show ((10 : UInt8) == c) = (c == 10) from BEq.comm]
    congr 1
theorem Cl.nc : ∀ {l : List UInt8}, Cl l → NC l
  | [], _, r => by
    show Lib.index (13 :: 10 :: r) nl = 0
    rw [idx_cons, pre_nl, if_pos (by rfl)]
  | x :: l, h, r => by
    have ih := Cl.nc h.tail r
    show Lib.index (x :: (l ++ 13 :: 10 :: r)) nl = _
    rw [idx_cons, pre_nl, if_neg (by simp [h.head.1]), ih, if_neg (by omega), List.length_cons]
    omega
theorem idx_split : ∀ b : List UInt8, Lib.index b nl = -1 ∨ ∃ a r, b = a ++ 13 :: 10 :: r ∧ Lib.index b nl = a.length ∧ NC a
  | [] => .inl rfl
  | x :: l => by
    rw [idx_cons]
    by_cases h : nl.isPrefixOf (x :: l) = true
    · rw [if_pos h]
      rw [pre_nl] at h
      simp only [Bool.and_eq_true, beq_iff_eq] at h
      cases l with
      | nil => simp at h
      | cons y r =>
        simp at h
        obtain ⟨rfl, rfl⟩ := h
        exact .inr ⟨[], r, rfl, rfl, Cl.nc Cl.nil⟩
    · rw [if_neg h]
      rcases idx_split l with h1 | ⟨a, r, h1, h2, h3⟩
      · rw [h1]; exact .inl rfl
      · rw [h2, if_neg (by omega)]
        refine .inr ⟨x :: a, r, by rw [h1]; rfl, by simp, fun r' => ?_⟩
        show Lib.index (x :: (a ++ 13 :: 10 :: r')) nl = _
        have hx : ¬ nl.isPrefixOf (x :: (a ++ 13 :: 10 :: r')) = true := by
          rw [pre_nl] at h ⊢
          subst h1
          cases a with
          | nil => simpa using h
          | cons y a => simpa using h
        rw [idx_cons, if_neg hx, h3 r', if_neg (by omega), List.length_cons]
        omega
def linesN : Nat → List UInt8 → List (List UInt8)
  | 0, _ => []
  | k + 1, b => if Lib.index b nl < 0 then [] else b.take (Lib.index b nl).toNat :: linesN k (b.drop ((Lib.index b nl).toNat + 2))
/-- What stands ahead of each line's end. -/
def lines (b : List UInt8) : List (List UInt8) := linesN (b.length + 1) b
theorem linesN_no {b : List UInt8} (h : Lib.index b nl = -1) : ∀ k, linesN k b = []
  | 0 => rfl
  | k + 1 => by unfold linesN; rw [if_pos (by omega)]
theorem linesN_cons {a : List UInt8} (h : NC a) (r : List UInt8) (k : Nat) : linesN (k + 1) (a ++ 13 :: 10 :: r) = a :: linesN k r := by
  conv => lhs; unfold linesN
  rw [h r, if_neg (by omega), Int.toNat_natCast, List.take_left, List.drop_append, List.drop_of_length_le (by omega)]
  simp
theorem linesN_le : ∀ (n : Nat) (b : List UInt8), b.length ≤ n → ∀ k, b.length ≤ k → linesN (k + 1) b = linesN (b.length + 1) b
  | 0, b, hn, k, hk => by
    obtain rfl : b = [] := List.eq_nil_of_length_eq_zero (by omega)
    rw [linesN_no rfl, linesN_no rfl]
  | n + 1, b, hn, k, hk => by
    rcases idx_split b with h | ⟨a, r, rfl, _, h⟩
    · rw [linesN_no h, linesN_no h]
    · simp only [List.length_append, List.length_cons] at hn hk ⊢
      rw [linesN_cons h, linesN_cons h]
      obtain ⟨k, rfl⟩ : ∃ k', k = k' + 1 := ⟨k - 1, by omega⟩
      rw [linesN_le n r (by omega) k (by omega), show a.length + (r.length + 1 + 1) = (a.length + r.length + 1) + 1 by omega, linesN_le n r (by omega) (a.length + r.length + 1) (by omega)]
theorem lines_no {b : List UInt8} (h : Lib.index b nl = -1) : lines b = [] := linesN_no h _
theorem lines_cons {a : List UInt8} (h : NC a) (r : List UInt8) : lines (a ++ 13 :: 10 :: r) = a :: lines r := by
  unfold lines
  rw [linesN_cons h]
  congr 1
  rw [List.length_append, List.length_cons, List.length_cons, show a.length + (r.length + 1 + 1) = (a.length + r.length + 1) + 1 by omega]
  exact linesN_le r.length r (Nat.le_refl _) _ (by omega)
/-- Lines put together. -/
def join (ls : List (List UInt8)) : List UInt8 := (ls.map (· ++ [13, 10])).flatten
theorem join_nil : join [] = [] := rfl
theorem join_cons (l : List UInt8) (ls : List (List UInt8)) : join (l :: ls) = l ++ 13 :: 10 :: join ls := by simp [join]
theorem join_app (a b : List (List UInt8)) : join (a ++ b) = join a ++ join b := by simp [join]
theorem join_one (l : List UInt8) : join [l] = l ++ [13, 10] := by simp [join]
theorem lines_join_app (t : List UInt8) : ∀ ls : List (List UInt8), (∀ l ∈ ls, NC l) → lines (join ls ++ t) = ls ++ lines t
  | [], _ => rfl
  | l :: ls, h => by
    rw [join_cons, List.append_assoc]
    show lines (l ++ 13 :: 10 :: (join ls ++ t)) = _
    rw [lines_cons (h l List.mem_cons_self), lines_join_app t ls (fun x hx => h x (List.mem_cons_of_mem _ hx))]
    rfl
theorem lines_join {ls : List (List UInt8)} (h : ∀ l ∈ ls, Cl l) : lines (join ls) = ls := by
  have := lines_join_app [] ls (fun l hl => (h l hl).nc)
  rw [List.append_nil] at this
  rw [this, lines_no rfl, List.append_nil]
theorem join_inj {a b : List (List UInt8)} (ha : ∀ l ∈ a, Cl l) (hb : ∀ l ∈ b, Cl l) (h : join a = join b) : a = b := by
  rw [← lines_join ha, h, lines_join hb]
theorem lines_len : ∀ (n : Nat) (b : List UInt8), b.length ≤ n → (lines b).length ≤ b.length ∧ ∀ l ∈ lines b, l.length ≤ b.length
  | 0, b, hn => by
    obtain rfl : b = [] := List.eq_nil_of_length_eq_zero (by omega)
    rw [lines_no rfl]
    exact ⟨Nat.zero_le _, fun l h => by cases h⟩
  | n + 1, b, hn => by
    rcases idx_split b with h | ⟨a, r, rfl, _, h⟩
    · rw [lines_no h]
      exact ⟨Nat.zero_le _, fun l h => by cases h⟩
    · rw [lines_cons h]
      simp only [List.length_append, List.length_cons] at hn ⊢
      obtain ⟨h1, h2⟩ := lines_len n r (by omega)
      refine ⟨by omega, fun l hl => ?_⟩
      rcases List.mem_cons.1 hl with rfl | hl
      · omega
      · have := h2 l hl; omega
/-! ### what the functions tell -/
theorem T39 : T 39 [] [] = some (nlP, []) :=
  evT_of (k := 0) (F := l39) (H' := []) (e := [nlP]) (l := [nlP]) rfl rfl rfl rfl rfl rfl
theorem bytes8_map (l : List UInt8) : bytes8 (l.map b8) = some l := bytes8_b8 l
theorem T49 (l s : List UInt8) (hl : l.length < 4294967281) (h2 : 2 ≤ s.length) (h3 : s.length ≤ 1000000) (t t' : Tk) (z z' : Nat) : T 49 [.sl t z l.length (l.map b8), .sl t' z' s.length (s.map b8)] [] = some (.int .i64 (Lib.index l s), []) := by
  refine evT_ov (φ := ovBI) rfl ?_
  unfold ovBI
  simp only [bytes8_map]
  rw [if_pos ⟨trivial, trivial, hl, h2, h3⟩]
theorem T40 (l : List UInt8) (c : UInt8) (t : Tk) (z : Nat) : T 40 [.sl t z l.length (l.map b8), .int .u8 c.toNat] [] = some (.int .i64 (idxB l c), []) := by
  refine evT_ov (φ := ovBIB) rfl ?_
  unfold ovBIB
  simp only [bytes8_map]
  rw [if_pos trivial, byte_back]
theorem T42 (l : List UInt8) (h : l.length ≤ 140737488355328) (t : Tk) (z : Nat) : T 42 [.sl t z l.length (l.map b8)] [] = some (.sl (.tok 0) 1 l.length (l.map b8), [.tok]) := by
  refine evT_ov (φ := ovClone) rfl ?_
  unfold ovClone
  simp only [bytes8_map]
  rw [if_pos ⟨trivial, h⟩]
  rfl
theorem cut_yes (a r : List UInt8) (h : NC a) (hl : (a ++ 13 :: 10 :: r).length < 4294967281) : T 41 [sl8 (a ++ 13 :: 10 :: r), nlP] [] = some (.tup [sl8 a, sl8 r, .bool true], []) := by
  refine evT_of (k := 0) (F := l41) (H' := []) (e := [sl8 a, sl8 r, .bool true]) (l := [sl8 a, sl8 r, .bool true]) rfl rfl rfl ?_ rfl rfl
  show evL T 0 q41 _ _ = _
  have c1 : T 49 [sl8 (a ++ 13 :: 10 :: r), .sl .no 1 2 [.int .u8 13, .int .u8 10]] [] = _ := T49 (a ++ 13 :: 10 :: r) nl hl (by decide) (by decide) .no .no 1 1
  rw [h r] at c1
  have h1 : (0 : Int) ≤ a.length := by omega
  have hll : (a ++ 13 :: 10 :: r).length = a.length + (r.length + 2) := by simp
  have h2 : (a.length : Int) ≤ (a ++ 13 :: 10 :: r).length := by omega
  have w1 : IntKind.i64.wrap ((a.length : Int) + ((2 : Nat) : Int)) = ((a.length + 2 : Nat) : Int) := by rw [wr (by omega) (by omega)]; omega
  have h3 : ((a.length + 2 : Nat) : Int) ≤ (a ++ 13 :: 10 :: r).length := by omega
  have h4 : a.length + 2 ≤ (a ++ 13 :: 10 :: r).length := by omega
  have e1 : ((a ++ 13 :: 10 :: r).map b8).take a.length = a.map b8 := by rw [List.map_append, List.take_left' (by simp)]
  have e2 : ((a ++ 13 :: 10 :: r).map b8).drop (a.length + 2) = r.map b8 := by
    rw [← List.map_drop, List.drop_append, List.drop_of_length_le (by omega)]; simp
  have e3 : (a ++ 13 :: 10 :: r).length - (a.length + 2) = r.length := by omega
  have e4 : ((a ++ 13 :: 10 :: r).map b8).take (a ++ 13 :: 10 :: r).length = (a ++ 13 :: 10 :: r).map b8 := List.take_of_length_le (by simp)
  generalize (a ++ 13 :: 10 :: r) = b at *
  simp only [q41, evL_op, evL_sel, evL_nx, evL_exit, evL_ret, evL_join, evL_block, evL_cond, evK_some, evJ_nx, evJ_rt, evJ_ex, evB_nx, evB_rt, evB_ex, evC2_bool, evS_and, evS_or, evS_tf, evS_ft, ev_t, ev_s, ev_c, evalOp, bin_add, bin_sub, bin_mul, bin_eql, bin_neq, bin_lss, bin_leq, bin_gtr, bin_geq, sbin_eql, sbin_neq, b8, List.map_cons, List.map_nil, PV.rens, PV.ren, if_true, if_false, Bool.false_eq_true, reduceIte, Nat.reduceAdd, Nat.reduceSub, Nat.reduceMul, Nat.reduceEqDiff, Nat.reduceLeDiff, Int.reduceLE, Int.reduceLT, Int.reduceEq, Int.reduceToNat, Int.reduceAdd, Int.reduceSub, Int.reduceNeg, decide_true, decide_false, Bool.not_true, Bool.not_false, Bool.true_and, Bool.false_and, Bool.and_true, Bool.and_false, Bool.or_true, Bool.true_or, Bool.or_false, Bool.false_or, and_self, and_true, true_and, Nat.le_refl, Nat.zero_add, Nat.mul_one, Nat.one_ne_zero, Nat.zero_le, highP, lowP, Option.map_some, Option.map_none, List.drop_zero, List.take_zero, List.length_cons, List.length_nil, List.nil_append, List.append_nil, List.cons_append, fillP, PV.cells?, PV.one, PV.cleans, PV.clean, PV.of?, List.all_cons, List.all_nil, List.take_succ_cons, List.drop_succ_cons, Bool.and_self, Int.natCast_nonneg, Int.toNat_natCast, Int.toNat_zero, PV.rens, PV.ren, Tk.ren, c1, h1, h2, w1, h3, h4, e1, e2, e3, e4, Nat.sub_zero, or_true, Nat.zero_lt_one]
theorem cut_no (b : List UInt8) (h : Lib.index b nl = -1) (hl : b.length < 4294967281) : T 41 [sl8 b, nlP] [] = some (.tup [sl8 b, .sl .nil 0 0 [], .bool false], []) := by
  refine evT_of (k := 0) (F := l41) (H' := []) (e := [sl8 b, .sl .nil 0 0 [], .bool false]) (l := [sl8 b, .sl .nil 0 0 [], .bool false]) rfl rfl rfl ?_ rfl rfl
  show evL T 0 q41 _ _ = _
  have c1 : T 49 [sl8 b, .sl .no 1 2 [.int .u8 13, .int .u8 10]] [] = _ := T49 b nl hl (by decide) (by decide) .no .no 1 1
  rw [h] at c1
  have h1 : ¬ (0 : Int) ≤ -1 := by decide
  simp only [q41, evL_op, evL_sel, evL_nx, evL_exit, evL_ret, evL_join, evL_block, evL_cond, evK_some, evJ_nx, evJ_rt, evJ_ex, evB_nx, evB_rt, evB_ex, evC2_bool, evS_and, evS_or, evS_tf, evS_ft, ev_t, ev_s, ev_c, evalOp, bin_add, bin_sub, bin_mul, bin_eql, bin_neq, bin_lss, bin_leq, bin_gtr, bin_geq, sbin_eql, sbin_neq, b8, List.map_cons, List.map_nil, PV.rens, PV.ren, if_true, if_false, Bool.false_eq_true, reduceIte, Nat.reduceAdd, Nat.reduceSub, Nat.reduceMul, Nat.reduceEqDiff, Nat.reduceLeDiff, Int.reduceLE, Int.reduceLT, Int.reduceEq, Int.reduceToNat, Int.reduceAdd, Int.reduceSub, Int.reduceNeg, decide_true, decide_false, Bool.not_true, Bool.not_false, Bool.true_and, Bool.false_and, Bool.and_true, Bool.and_false, Bool.or_true, Bool.true_or, Bool.or_false, Bool.false_or, and_self, and_true, true_and, Nat.le_refl, Nat.zero_add, Nat.mul_one, Nat.one_ne_zero, Nat.zero_le, highP, lowP, Option.map_some, Option.map_none, List.drop_zero, List.take_zero, List.length_cons, List.length_nil, List.nil_append, List.append_nil, List.cons_append, fillP, PV.cells?, PV.one, PV.cleans, PV.clean, PV.of?, List.all_cons, List.all_nil, List.take_succ_cons, List.drop_succ_cons, Bool.and_self, Int.natCast_nonneg, Int.toNat_natCast, Int.toNat_zero, PV.rens, PV.ren, Tk.ren, c1, h1]
def accL (t : Tk) (D : List (List UInt8)) : PV := .sl t (if D = [] then 0 else 1) D.length (D.map fun l => sl8 l)
theorem accL_snoc (D : List (List UInt8)) (l : List UInt8) (t : Tk) : accL t (D ++ [l]) = .sl t 1 (D.length + 1) (D.map (fun l => sl8 l) ++ [sl8 l]) := by
  unfold accL
  rw [if_neg (by simp)]
  simp
theorem T25 (b : List UInt8) (hl : b.length ≤ 1000000000) : T 25 [sl8 b] [] = some (accL (.tok 0) (lines b), [.tok]) := by
  refine evT_of (k := b.length + 1) (F := l25) (H' := [.tok]) (e := [accL (.tok 0) (lines b)]) (l := [accL (.tok 0) (lines b)]) rfl rfl rfl ?_ rfl rfl
  show evL T (b.length + 1) q25 _ _ = _
  have lp := loop_law (n := 0) (body := evL T (b.length + 1) q25_1) (σ := List UInt8 × List (List UInt8)) (fun s => [sl8 s.1, accL (.tok 0) s.2]) (fun _ => [.tok]) (fun s => s.1.length)
    (fun s => s.1.length + s.2.length ≤ 1000000000) (fun s => (.rt, [accL (.tok 0) (s.2 ++ lines s.1)], [.tok])) (by
      rintro ⟨b, D⟩ hi
      dsimp only at hi ⊢
      rcases idx_split b with h | ⟨a, r, rfl, _, h⟩
      · refine .inl ⟨?_, by simp⟩
        have c1 := cut_no b h (by omega)
        rw [lines_no h, List.append_nil]
        simp only [q25_1, evL_op, evL_sel, evL_nx, evL_exit, evL_ret, evL_join, evL_block, evL_cond, evK_some, evJ_nx, evJ_rt, evJ_ex, evB_nx, evB_rt, evB_ex, evC2_bool, evS_and, evS_or, evS_tf, evS_ft, ev_t, ev_s, ev_c, evalOp, bin_add, bin_sub, bin_mul, bin_eql, bin_neq, bin_lss, bin_leq, bin_gtr, bin_geq, sbin_eql, sbin_neq, b8, List.map_cons, List.map_nil, PV.rens, PV.ren, if_true, if_false, Bool.false_eq_true, reduceIte, Nat.reduceAdd, Nat.reduceSub, Nat.reduceMul, Nat.reduceEqDiff, Nat.reduceLeDiff, Int.reduceLE, Int.reduceLT, Int.reduceEq, Int.reduceToNat, Int.reduceAdd, Int.reduceSub, Int.reduceNeg, decide_true, decide_false, Bool.not_true, Bool.not_false, Bool.true_and, Bool.false_and, Bool.and_true, Bool.and_false, Bool.or_true, Bool.true_or, Bool.or_false, Bool.false_or, and_self, and_true, true_and, Nat.le_refl, Nat.zero_add, Nat.mul_one, Nat.one_ne_zero, Nat.zero_le, highP, lowP, Option.map_some, Option.map_none, List.drop_zero, List.take_zero, List.length_cons, List.length_nil, List.nil_append, List.append_nil, List.cons_append, fillP, PV.cells?, PV.one, PV.cleans, PV.clean, PV.of?, List.all_cons, List.all_nil, List.take_succ_cons, List.drop_succ_cons, Bool.and_self, Int.natCast_nonneg, Int.toNat_natCast, Int.toNat_zero, PV.rens, PV.ren, Tk.ren, T39, c1, List.getElem?_cons_zero, List.getElem?_cons_succ]
      · refine .inr ⟨(r, D ++ [a]), ?_⟩
        apply Exists.intro
        apply Exists.intro
        simp only [List.length_append, List.length_cons] at hi
        refine ⟨?_, ?_, ?_, ?_, ?_⟩
        · have c1 := cut_yes a r h (by simp; omega)
          have c2 := T42 a (by omega) .no 1
          have hr : (D.length + 1) * 24 ≤ roomMax := by unfold roomMax; omega
          have hz : ((if D = [] then 0 else 1) = 1 ∨ (if D = [] then 0 else 1) = 0) := by split <;> simp
          simp only [q25_1, q25_0, evL_op, evL_sel, evL_nx, evL_exit, evL_ret, evL_join, evL_block, evL_cond, evK_some, evJ_nx, evJ_rt, evJ_ex, evB_nx, evB_rt, evB_ex, evC2_bool, evS_and, evS_or, evS_tf, evS_ft, ev_t, ev_s, ev_c, evalOp, bin_add, bin_sub, bin_mul, bin_eql, bin_neq, bin_lss, bin_leq, bin_gtr, bin_geq, sbin_eql, sbin_neq, b8, List.map_cons, List.map_nil, PV.rens, PV.ren, if_true, if_false, Bool.false_eq_true, reduceIte, Nat.reduceAdd, Nat.reduceSub, Nat.reduceMul, Nat.reduceEqDiff, Nat.reduceLeDiff, Int.reduceLE, Int.reduceLT, Int.reduceEq, Int.reduceToNat, Int.reduceAdd, Int.reduceSub, Int.reduceNeg, decide_true, decide_false, Bool.not_true, Bool.not_false, Bool.true_and, Bool.false_and, Bool.and_true, Bool.and_false, Bool.or_true, Bool.true_or, Bool.or_false, Bool.false_or, and_self, and_true, true_and, Nat.le_refl, Nat.zero_add, Nat.mul_one, Nat.one_ne_zero, Nat.zero_le, highP, lowP, Option.map_some, Option.map_none, List.drop_zero, List.take_zero, List.length_cons, List.length_nil, List.nil_append, List.append_nil, List.cons_append, fillP, PV.cells?, PV.one, PV.cleans, PV.clean, PV.of?, List.all_cons, List.all_nil, List.take_succ_cons, List.drop_succ_cons, Bool.and_self, Int.natCast_nonneg, Int.toNat_natCast, Int.toNat_zero, PV.rens, PV.ren, Tk.ren, T39, c1, c2, accL, tailP, hr, hz, or_true, List.getElem?_cons_zero, List.getElem?_cons_succ, List.set_cons_zero]
          rfl
        · rw [accL_snoc]
          rfl
        · simp only [List.length_append, List.length_cons, List.length_nil]; omega
        · simp; omega
        · rw [lines_cons h]; simp)
    (b.length + 1) (b, []) [sl8 b, .sl .nil 0 0 []] [] rfl (by simpa using hl) (by simp)
  simp only [q25, evL_op, evL_sel, evL_nx, evL_exit, evL_ret, evL_join, evL_block, evL_cond, evK_some, evJ_nx, evJ_rt, evJ_ex, evB_nx, evB_rt, evB_ex, evC2_bool, evS_and, evS_or, evS_tf, evS_ft, ev_t, ev_s, ev_c, evalOp, bin_add, bin_sub, bin_mul, bin_eql, bin_neq, bin_lss, bin_leq, bin_gtr, bin_geq, sbin_eql, sbin_neq, b8, List.map_cons, List.map_nil, PV.rens, PV.ren, if_true, if_false, Bool.false_eq_true, reduceIte, Nat.reduceAdd, Nat.reduceSub, Nat.reduceMul, Nat.reduceEqDiff, Nat.reduceLeDiff, Int.reduceLE, Int.reduceLT, Int.reduceEq, Int.reduceToNat, Int.reduceAdd, Int.reduceSub, Int.reduceNeg, decide_true, decide_false, Bool.not_true, Bool.not_false, Bool.true_and, Bool.false_and, Bool.and_true, Bool.and_false, Bool.or_true, Bool.true_or, Bool.or_false, Bool.false_or, and_self, and_true, true_and, Nat.le_refl, Nat.zero_add, Nat.mul_one, Nat.one_ne_zero, Nat.zero_le, highP, lowP, Option.map_some, Option.map_none, List.drop_zero, List.take_zero, List.length_cons, List.length_nil, List.nil_append, List.append_nil, List.cons_append, fillP, PV.cells?, PV.one, PV.cleans, PV.clean, PV.of?, List.all_cons, List.all_nil, List.take_succ_cons, List.drop_succ_cons, Bool.and_self, Int.natCast_nonneg, Int.toNat_natCast, Int.toNat_zero, evL_loop, List.nil_append] at lp ⊢
  rw [lp]
  simp only [evL_op, evL_sel, evL_nx, evL_exit, evL_ret, evL_join, evL_block, evL_cond, evK_some, evJ_nx, evJ_rt, evJ_ex, evB_nx, evB_rt, evB_ex, evC2_bool, evS_and, evS_or, evS_tf, evS_ft, ev_t, ev_s, ev_c, evalOp, bin_add, bin_sub, bin_mul, bin_eql, bin_neq, bin_lss, bin_leq, bin_gtr, bin_geq, sbin_eql, sbin_neq, b8, List.map_cons, List.map_nil, PV.rens, PV.ren, if_true, if_false, Bool.false_eq_true, reduceIte, Nat.reduceAdd, Nat.reduceSub, Nat.reduceMul, Nat.reduceEqDiff, Nat.reduceLeDiff, Int.reduceLE, Int.reduceLT, Int.reduceEq, Int.reduceToNat, Int.reduceAdd, Int.reduceSub, Int.reduceNeg, decide_true, decide_false, Bool.not_true, Bool.not_false, Bool.true_and, Bool.false_and, Bool.and_true, Bool.and_false, Bool.or_true, Bool.true_or, Bool.or_false, Bool.false_or, and_self, and_true, true_and, Nat.le_refl, Nat.zero_add, Nat.mul_one, Nat.one_ne_zero, Nat.zero_le, highP, lowP, Option.map_some, Option.map_none, List.drop_zero, List.take_zero, List.length_cons, List.length_nil, List.nil_append, List.append_nil, List.cons_append, fillP, PV.cells?, PV.one, PV.cleans, PV.clean, PV.of?, List.all_cons, List.all_nil, List.take_succ_cons, List.drop_succ_cons, Bool.and_self, Int.natCast_nonneg, Int.toNat_natCast, Int.toNat_zero]
end Go.Proofs.YtmdnloajpjfbmaaDoor.Tab

namespace Go.Proofs.YtmdnloajpjfbmaaDoor.Tab
set_option linter.all false
open Go Go.RowKit Go.Proofs.YtmdnloajpjfbmaaDoor.Ev
theorem b2s_if {l : List UInt8} {H : Hp} : (if l.length = 0 then some (PV.str [], H) else some (PV.str l, H)) = some (PV.str l, H) := by
  split
  · rename_i h; rw [List.eq_nil_of_length_eq_zero h]
  · rfl
theorem T_equal8 (a b : List UInt8) : T 47 [sl8 a, sl8 b] [] = some (.bool (decide (a = b)), []) := by
  refine evT_of (k := 0) (F := l47) (H' := []) (e := [.bool (decide (a = b))]) (l := [.bool (decide (a = b))]) rfl rfl rfl ?_ rfl rfl
  show evL T 0 q47 _ _ = _
  simp only [q47, evL_op, evL_sel, evL_nx, evL_exit, evL_ret, evL_join, evL_block, evL_cond, evK_some, evJ_nx, evJ_rt, evJ_ex, evB_nx, evB_rt, evB_ex, evC2_bool, evS_and, evS_or, evS_tf, evS_ft, ev_t, ev_s, ev_c, evalOp, bin_add, bin_sub, bin_mul, bin_eql, bin_neq, bin_lss, bin_leq, bin_gtr, bin_geq, sbin_eql, sbin_neq, b8, List.map_cons, List.map_nil, PV.rens, PV.ren, if_true, if_false, Bool.false_eq_true, reduceIte, Nat.reduceAdd, Nat.reduceSub, Nat.reduceMul, Nat.reduceEqDiff, Nat.reduceLeDiff, Int.reduceLE, Int.reduceLT, Int.reduceEq, Int.reduceToNat, Int.reduceAdd, Int.reduceSub, Int.reduceNeg, decide_true, decide_false, Bool.not_true, Bool.not_false, Bool.true_and, Bool.false_and, Bool.and_true, Bool.and_false, Bool.or_true, Bool.true_or, Bool.or_false, Bool.false_or, and_self, and_true, true_and, Nat.le_refl, Nat.zero_add, Nat.mul_one, Nat.one_ne_zero, Nat.zero_le, highP, lowP, Option.map_some, Option.map_none, List.drop_zero, List.take_zero, List.length_cons, List.length_nil, List.nil_append, List.append_nil, List.cons_append, fillP, PV.cells?, PV.one, PV.cleans, PV.clean, PV.of?, List.all_cons, List.all_nil, List.take_succ_cons, List.drop_succ_cons, Bool.and_self, Int.natCast_nonneg, Int.toNat_natCast, Int.toNat_zero, bytes8_map, b2s_if]
theorem T47 {p q : PV} {a b : List UInt8} (hp : BS p a) (hq : BS q b) : T 47 [p, q] [] = some (.bool (decide (a = b)), []) := by
  have emp : ∀ t z, T 47 [.sl t z 0 [], sl8 b] [] = some (.bool (decide ([] = b)), []) := fun t z => by
    refine evT_of (k := 0) (F := l47) (H' := []) (e := [.bool (decide ([] = b))]) (l := [.bool (decide ([] = b))]) rfl rfl rfl ?_ rfl rfl
    show evL T 0 q47 _ _ = _
    simp only [q47, evL_op, evL_sel, evL_nx, evL_exit, evL_ret, evL_join, evL_block, evL_cond, evK_some, evJ_nx, evJ_rt, evJ_ex, evB_nx, evB_rt, evB_ex, evC2_bool, evS_and, evS_or, evS_tf, evS_ft, ev_t, ev_s, ev_c, evalOp, bin_add, bin_sub, bin_mul, bin_eql, bin_neq, bin_lss, bin_leq, bin_gtr, bin_geq, sbin_eql, sbin_neq, b8, List.map_cons, List.map_nil, PV.rens, PV.ren, if_true, if_false, Bool.false_eq_true, reduceIte, Nat.reduceAdd, Nat.reduceSub, Nat.reduceMul, Nat.reduceEqDiff, Nat.reduceLeDiff, Int.reduceLE, Int.reduceLT, Int.reduceEq, Int.reduceToNat, Int.reduceAdd, Int.reduceSub, Int.reduceNeg, decide_true, decide_false, Bool.not_true, Bool.not_false, Bool.true_and, Bool.false_and, Bool.and_true, Bool.and_false, Bool.or_true, Bool.true_or, Bool.or_false, Bool.false_or, and_self, and_true, true_and, Nat.le_refl, Nat.zero_add, Nat.mul_one, Nat.one_ne_zero, Nat.zero_le, highP, lowP, Option.map_some, Option.map_none, List.drop_zero, List.take_zero, List.length_cons, List.length_nil, List.nil_append, List.append_nil, List.cons_append, fillP, PV.cells?, PV.one, PV.cleans, PV.clean, PV.of?, List.all_cons, List.all_nil, List.take_succ_cons, List.drop_succ_cons, Bool.and_self, Int.natCast_nonneg, Int.toNat_natCast, Int.toNat_zero, bytes8_map, b2s_if]
  have emp2 : ∀ t z, T 47 [sl8 a, .sl t z 0 []] [] = some (.bool (decide (a = [])), []) := fun t z => by
    refine evT_of (k := 0) (F := l47) (H' := []) (e := [.bool (decide (a = []))]) (l := [.bool (decide (a = []))]) rfl rfl rfl ?_ rfl rfl
    show evL T 0 q47 _ _ = _
    simp only [q47, evL_op, evL_sel, evL_nx, evL_exit, evL_ret, evL_join, evL_block, evL_cond, evK_some, evJ_nx, evJ_rt, evJ_ex, evB_nx, evB_rt, evB_ex, evC2_bool, evS_and, evS_or, evS_tf, evS_ft, ev_t, ev_s, ev_c, evalOp, bin_add, bin_sub, bin_mul, bin_eql, bin_neq, bin_lss, bin_leq, bin_gtr, bin_geq, sbin_eql, sbin_neq, b8, List.map_cons, List.map_nil, PV.rens, PV.ren, if_true, if_false, Bool.false_eq_true, reduceIte, Nat.reduceAdd, Nat.reduceSub, Nat.reduceMul, Nat.reduceEqDiff, Nat.reduceLeDiff, Int.reduceLE, Int.reduceLT, Int.reduceEq, Int.reduceToNat, Int.reduceAdd, Int.reduceSub, Int.reduceNeg, decide_true, decide_false, Bool.not_true, Bool.not_false, Bool.true_and, Bool.false_and, Bool.and_true, Bool.and_false, Bool.or_true, Bool.true_or, Bool.or_false, Bool.false_or, and_self, and_true, true_and, Nat.le_refl, Nat.zero_add, Nat.mul_one, Nat.one_ne_zero, Nat.zero_le, highP, lowP, Option.map_some, Option.map_none, List.drop_zero, List.take_zero, List.length_cons, List.length_nil, List.nil_append, List.append_nil, List.cons_append, fillP, PV.cells?, PV.one, PV.cleans, PV.clean, PV.of?, List.all_cons, List.all_nil, List.take_succ_cons, List.drop_succ_cons, Bool.and_self, Int.natCast_nonneg, Int.toNat_natCast, Int.toNat_zero, bytes8_map, b2s_if]
  have emp3 : ∀ t z t' z', T 47 [.sl t z 0 [], .sl t' z' 0 []] [] = some (.bool true, []) := fun t z t' z' =>
    evT_of (k := 0) (F := l47) (H' := []) (e := [.bool true]) (l := [.bool true]) rfl rfl rfl rfl rfl rfl
  rcases hp.cases with rfl | ⟨rfl, t, z, rfl, _⟩ <;> rcases hq.cases with rfl | ⟨rfl, t', z', rfl, _⟩
  · exact T_equal8 a b
  · exact emp2 t' z'
  · exact emp t z
  · exact emp3 t z t' z'
/-- Does a text end with a line's end? -/
def hasNl (b : List UInt8) : Bool := decide ((2 : Int) ≤ b.length) && decide (b.drop (b.length - 2) = nl)
theorem T_suffix (b : List UInt8) (hl : b.length ≤ 9000000000000000000) : T 38 [sl8 b, .sl .no 1 2 [.int .u8 13, .int .u8 10]] [] = some (.bool (hasNl b), []) := by
  refine evT_of (k := 0) (F := l38) (H' := []) (e := [.bool (hasNl b)]) (l := [.bool (hasNl b)]) rfl rfl rfl ?_ rfl rfl
  show evL T 0 q38 _ _ = _
  unfold hasNl
  by_cases h : (2 : Int) ≤ b.length
  · have w1 : IntKind.i64.wrap ((b.length : Int) - 2) = ((b.length - 2 : Nat) : Int) := by rw [wr (by omega) (by omega)]; omega
    have h2 : b.length - 2 ≤ b.length := by omega
    have h3 : ((b.length - 2 : Nat) : Int) ≤ b.length := by omega
    have e1 : (b.map b8).take b.length = b.map b8 := List.take_of_length_le (by simp)
    have e2 : (b.map b8).drop (b.length - 2) = (b.drop (b.length - 2)).map b8 := by rw [List.map_drop]
    have e3 : b.length - (b.length - 2) = (b.drop (b.length - 2)).length := by rw [List.length_drop]
    have c1 : T 47 [sl8 (b.drop (b.length - 2)), .sl .no 1 2 [.int .u8 13, .int .u8 10]] [] = _ := T_equal8 (b.drop (b.length - 2)) nl
    have o2 : ((2 : Nat) : Int) = 2 := rfl
    simp only [q38, evL_op, evL_sel, evL_nx, evL_exit, evL_ret, evL_join, evL_block, evL_cond, evK_some, evJ_nx, evJ_rt, evJ_ex, evB_nx, evB_rt, evB_ex, evC2_bool, evS_and, evS_or, evS_tf, evS_ft, ev_t, ev_s, ev_c, evalOp, bin_add, bin_sub, bin_mul, bin_eql, bin_neq, bin_lss, bin_leq, bin_gtr, bin_geq, sbin_eql, sbin_neq, b8, List.map_cons, List.map_nil, PV.rens, PV.ren, if_true, if_false, Bool.false_eq_true, reduceIte, Nat.reduceAdd, Nat.reduceSub, Nat.reduceMul, Nat.reduceEqDiff, Nat.reduceLeDiff, Int.reduceLE, Int.reduceLT, Int.reduceEq, Int.reduceToNat, Int.reduceAdd, Int.reduceSub, Int.reduceNeg, decide_true, decide_false, Bool.not_true, Bool.not_false, Bool.true_and, Bool.false_and, Bool.and_true, Bool.and_false, Bool.or_true, Bool.true_or, Bool.or_false, Bool.false_or, and_self, and_true, true_and, Nat.le_refl, Nat.zero_add, Nat.mul_one, Nat.one_ne_zero, Nat.zero_le, highP, lowP, Option.map_some, Option.map_none, List.drop_zero, List.take_zero, List.length_cons, List.length_nil, List.nil_append, List.append_nil, List.cons_append, fillP, PV.cells?, PV.one, PV.cleans, PV.clean, PV.of?, List.all_cons, List.all_nil, List.take_succ_cons, List.drop_succ_cons, Bool.and_self, Int.natCast_nonneg, Int.toNat_natCast, Int.toNat_zero, PV.rens, PV.ren, Tk.ren, o2, h, w1, h2, h3, e1, e2, e3, c1, or_true, Nat.zero_lt_one]
  · have o2 : ((2 : Nat) : Int) = 2 := rfl
    simp only [q38, evL_op, evL_sel, evL_nx, evL_exit, evL_ret, evL_join, evL_block, evL_cond, evK_some, evJ_nx, evJ_rt, evJ_ex, evB_nx, evB_rt, evB_ex, evC2_bool, evS_and, evS_or, evS_tf, evS_ft, ev_t, ev_s, ev_c, evalOp, bin_add, bin_sub, bin_mul, bin_eql, bin_neq, bin_lss, bin_leq, bin_gtr, bin_geq, sbin_eql, sbin_neq, b8, List.map_cons, List.map_nil, PV.rens, PV.ren, if_true, if_false, Bool.false_eq_true, reduceIte, Nat.reduceAdd, Nat.reduceSub, Nat.reduceMul, Nat.reduceEqDiff, Nat.reduceLeDiff, Int.reduceLE, Int.reduceLT, Int.reduceEq, Int.reduceToNat, Int.reduceAdd, Int.reduceSub, Int.reduceNeg, decide_true, decide_false, Bool.not_true, Bool.not_false, Bool.true_and, Bool.false_and, Bool.and_true, Bool.and_false, Bool.or_true, Bool.true_or, Bool.or_false, Bool.false_or, and_self, and_true, true_and, Nat.le_refl, Nat.zero_add, Nat.mul_one, Nat.one_ne_zero, Nat.zero_le, highP, lowP, Option.map_some, Option.map_none, List.drop_zero, List.take_zero, List.length_cons, List.length_nil, List.nil_append, List.append_nil, List.cons_append, fillP, PV.cells?, PV.one, PV.cleans, PV.clean, PV.of?, List.all_cons, List.all_nil, List.take_succ_cons, List.drop_succ_cons, Bool.and_self, Int.natCast_nonneg, Int.toNat_natCast, Int.toNat_zero, o2, h]
def cleanB (l : List UInt8) : Bool := !l.contains 13 && !l.contains 10
theorem cleanB_iff {l : List UInt8} : cleanB l = true ↔ Cl l := by
  unfold cleanB Cl
  simp only [Bool.and_eq_true, Bool.not_eq_true', List.contains_eq_mem, decide_eq_false_iff_not]
  constructor
  · rintro ⟨h1, h2⟩ x hx
    exact ⟨fun e => h1 (e ▸ hx), fun e => h2 (e ▸ hx)⟩
  · intro h
    exact ⟨fun hx => (h _ hx).1 rfl, fun hx => (h _ hx).2 rfl⟩
/-- Is a text a body? -/
def body (b : List UInt8) : Bool := (decide (b = []) || hasNl b) && (lines b).all cleanB
theorem get_sl8 {L : List (List UInt8)} {i : Nat} (h : i < L.length) : ((L.map fun l => sl8 l).drop i).take 1 = [sl8 L[i]] := by
  rw [← List.map_drop, List.drop_eq_getElem_cons h, List.map_cons]; rfl
theorem get_sl8' {L : List (List UInt8)} {i : Nat} {l : List UInt8} (h : L[i]? = some l) : ((L.map fun l => sl8 l).drop i).take 1 = [sl8 l] := by
  obtain ⟨h1, h2⟩ := List.getElem?_eq_some_iff.1 h
  rw [get_sl8 h1, h2]
theorem accL_cons (t : Tk) {L : List (List UInt8)} (h : L ≠ []) : accL t L = .sl t 1 L.length (L.map fun l => sl8 l) := by unfold accL; rw [if_neg h]
theorem idxB_has (l : List UInt8) (c : UInt8) : decide ((0 : Int) ≤ idxB l c) = l.contains c := by
  have := idxB_neg l c
  rw [show l.contains c = !!l.contains c by simp, ← this]
  by_cases h : idxB l c < 0
  · rw [decide_eq_true h, decide_eq_false (by omega)]; rfl
  · rw [decide_eq_false h, decide_eq_true (by omega)]; rfl
theorem T24 (b : List UInt8) (hl : b.length ≤ 1000000000) : T 24 [sl8 b] [] = some (.int .i64 (if body b = true then 0 else 5), []) := by
  refine evT_of (k := b.length + 1) (F := l24) (H' := []) (e := [.int .i64 (if body b = true then 0 else 5)]) (l := [.int .i64 (if body b = true then 0 else 5)]) rfl rfl rfl ?_ rfl rfl
  show evL T (b.length + 1) q24 _ _ = _
  have c1 := T_suffix b (by omega)
  have c2 := T25 b hl
  have hb : (decide ((0 : Int) < b.length) && !hasNl b) = !(decide (b = []) || hasNl b) := by
    cases b with
    | nil => rfl
    | cons x l =>
      rw [decide_eq_true (by simp), decide_eq_false (by simp)]
      rfl
  by_cases h1 : (decide (b = []) || hasNl b) = true
  · have h2 : (decide ((0 : Int) < b.length) && !hasNl b) = false := by rw [hb, h1]; rfl
    have hlen := (lines_len b.length b (Nat.le_refl _)).1
    have hbd : body b = (lines b).all cleanB := by unfold body; rw [h1]; rfl
    rw [hbd]
    have hL := (lines_len b.length b (Nat.le_refl _)).2
    generalize lines b = L at *
    have lp := loop_law (n := 0) (body := evL T (b.length + 1) q24_1) (σ := Nat) (fun i => [accL .no L, .int .i64 L.length, .int .i64 i]) (fun _ => []) (fun i => L.length - i) (fun i => i ≤ L.length)
      (fun i => if (L.drop i).all cleanB = true then (.ex 0, [], []) else (.rt, [.int .i64 5], [])) (by
        intro i hi
        rcases Nat.lt_or_ge i L.length with h | h
        · have h3 : (i : Int) < L.length := by omega
          have hne : L ≠ [] := fun e => by rw [e] at h; cases h
          have hg := get_sl8 h
          have d1 : T 40 [sl8 L[i], .int .u8 13] [] = _ := T40 L[i] 13 .no 1
          have d2 : T 40 [sl8 L[i], .int .u8 10] [] = _ := T40 L[i] 10 .no 1
          have e1 := idxB_has L[i] 13
          have e2 := idxB_has L[i] 10
          rw [List.drop_eq_getElem_cons h, List.all_cons, accL_cons .no hne]
          by_cases hc : cleanB L[i] = true
          · rw [hc, Bool.true_and]
            refine .inr ⟨i + 1, ?_⟩
            apply Exists.intro
            apply Exists.intro
            refine ⟨?_, ?_, h, by omega, rfl⟩
            · unfold cleanB at hc
              simp only [Bool.and_eq_true, Bool.not_eq_true'] at hc
              simp only [q24_1, q24_0, evL_op, evL_sel, evL_nx, evL_exit, evL_ret, evL_join, evL_block, evL_cond, evK_some, evJ_nx, evJ_rt, evJ_ex, evB_nx, evB_rt, evB_ex, evC2_bool, evS_and, evS_or, evS_tf, evS_ft, ev_t, ev_s, ev_c, evalOp, bin_add, bin_sub, bin_mul, bin_eql, bin_neq, bin_lss, bin_leq, bin_gtr, bin_geq, sbin_eql, sbin_neq, b8, List.map_cons, List.map_nil, PV.rens, PV.ren, if_true, if_false, Bool.false_eq_true, reduceIte, Nat.reduceAdd, Nat.reduceSub, Nat.reduceMul, Nat.reduceEqDiff, Nat.reduceLeDiff, Int.reduceLE, Int.reduceLT, Int.reduceEq, Int.reduceToNat, Int.reduceAdd, Int.reduceSub, Int.reduceNeg, decide_true, decide_false, Bool.not_true, Bool.not_false, Bool.true_and, Bool.false_and, Bool.and_true, Bool.and_false, Bool.or_true, Bool.true_or, Bool.or_false, Bool.false_or, and_self, and_true, true_and, Nat.le_refl, Nat.zero_add, Nat.mul_one, Nat.one_ne_zero, Nat.zero_le, highP, lowP, Option.map_some, Option.map_none, List.drop_zero, List.take_zero, List.length_cons, List.length_nil, List.nil_append, List.append_nil, List.cons_append, fillP, PV.cells?, PV.one, PV.cleans, PV.clean, PV.of?, List.all_cons, List.all_nil, List.take_succ_cons, List.drop_succ_cons, Bool.and_self, Int.natCast_nonneg, Int.toNat_natCast, Int.toNat_zero, PV.rens, PV.ren, Tk.ren, h3, hg, d1, d2, e1, e2, hc.1, hc.2, wr1 (show i < 9223372036854775807 by omega)]
              rfl
            · rfl
          · have hc' : cleanB L[i] = false := by simpa using hc
            rw [hc', Bool.false_and]
            refine .inl ⟨?_, by simp⟩
            unfold cleanB at hc'
            cases hx : (L[i]).contains 13 with
            | true => simp only [q24_1, q24_0, evL_op, evL_sel, evL_nx, evL_exit, evL_ret, evL_join, evL_block, evL_cond, evK_some, evJ_nx, evJ_rt, evJ_ex, evB_nx, evB_rt, evB_ex, evC2_bool, evS_and, evS_or, evS_tf, evS_ft, ev_t, ev_s, ev_c, evalOp, bin_add, bin_sub, bin_mul, bin_eql, bin_neq, bin_lss, bin_leq, bin_gtr, bin_geq, sbin_eql, sbin_neq, b8, List.map_cons, List.map_nil, PV.rens, PV.ren, if_true, if_false, Bool.false_eq_true, reduceIte, Nat.reduceAdd, Nat.reduceSub, Nat.reduceMul, Nat.reduceEqDiff, Nat.reduceLeDiff, Int.reduceLE, Int.reduceLT, Int.reduceEq, Int.reduceToNat, Int.reduceAdd, Int.reduceSub, Int.reduceNeg, decide_true, decide_false, Bool.not_true, Bool.not_false, Bool.true_and, Bool.false_and, Bool.and_true, Bool.and_false, Bool.or_true, Bool.true_or, Bool.or_false, Bool.false_or, and_self, and_true, true_and, Nat.le_refl, Nat.zero_add, Nat.mul_one, Nat.one_ne_zero, Nat.zero_le, highP, lowP, Option.map_some, Option.map_none, List.drop_zero, List.take_zero, List.length_cons, List.length_nil, List.nil_append, List.append_nil, List.cons_append, fillP, PV.cells?, PV.one, PV.cleans, PV.clean, PV.of?, List.all_cons, List.all_nil, List.take_succ_cons, List.drop_succ_cons, Bool.and_self, Int.natCast_nonneg, Int.toNat_natCast, Int.toNat_zero, PV.rens, PV.ren, Tk.ren, h3, hg, d1, d2, e1, e2, hx]
            | false =>
              rw [hx] at hc'
              have hy : (L[i]).contains 10 = true := by simpa using hc'
              simp only [q24_1, q24_0, evL_op, evL_sel, evL_nx, evL_exit, evL_ret, evL_join, evL_block, evL_cond, evK_some, evJ_nx, evJ_rt, evJ_ex, evB_nx, evB_rt, evB_ex, evC2_bool, evS_and, evS_or, evS_tf, evS_ft, ev_t, ev_s, ev_c, evalOp, bin_add, bin_sub, bin_mul, bin_eql, bin_neq, bin_lss, bin_leq, bin_gtr, bin_geq, sbin_eql, sbin_neq, b8, List.map_cons, List.map_nil, PV.rens, PV.ren, if_true, if_false, Bool.false_eq_true, reduceIte, Nat.reduceAdd, Nat.reduceSub, Nat.reduceMul, Nat.reduceEqDiff, Nat.reduceLeDiff, Int.reduceLE, Int.reduceLT, Int.reduceEq, Int.reduceToNat, Int.reduceAdd, Int.reduceSub, Int.reduceNeg, decide_true, decide_false, Bool.not_true, Bool.not_false, Bool.true_and, Bool.false_and, Bool.and_true, Bool.and_false, Bool.or_true, Bool.true_or, Bool.or_false, Bool.false_or, and_self, and_true, true_and, Nat.le_refl, Nat.zero_add, Nat.mul_one, Nat.one_ne_zero, Nat.zero_le, highP, lowP, Option.map_some, Option.map_none, List.drop_zero, List.take_zero, List.length_cons, List.length_nil, List.nil_append, List.append_nil, List.cons_append, fillP, PV.cells?, PV.one, PV.cleans, PV.clean, PV.of?, List.all_cons, List.all_nil, List.take_succ_cons, List.drop_succ_cons, Bool.and_self, Int.natCast_nonneg, Int.toNat_natCast, Int.toNat_zero, PV.rens, PV.ren, Tk.ren, h3, hg, d1, d2, e1, e2, hx, hy]
        · refine .inl ?_
          have h3 : ¬ (i : Int) < L.length := by omega
          rw [List.drop_of_length_le h]
          refine ⟨?_, by simp⟩
          simp only [q24_1, evL_op, evL_sel, evL_nx, evL_exit, evL_ret, evL_join, evL_block, evL_cond, evK_some, evJ_nx, evJ_rt, evJ_ex, evB_nx, evB_rt, evB_ex, evC2_bool, evS_and, evS_or, evS_tf, evS_ft, ev_t, ev_s, ev_c, evalOp, bin_add, bin_sub, bin_mul, bin_eql, bin_neq, bin_lss, bin_leq, bin_gtr, bin_geq, sbin_eql, sbin_neq, b8, List.map_cons, List.map_nil, PV.rens, PV.ren, if_true, if_false, Bool.false_eq_true, reduceIte, Nat.reduceAdd, Nat.reduceSub, Nat.reduceMul, Nat.reduceEqDiff, Nat.reduceLeDiff, Int.reduceLE, Int.reduceLT, Int.reduceEq, Int.reduceToNat, Int.reduceAdd, Int.reduceSub, Int.reduceNeg, decide_true, decide_false, Bool.not_true, Bool.not_false, Bool.true_and, Bool.false_and, Bool.and_true, Bool.and_false, Bool.or_true, Bool.true_or, Bool.or_false, Bool.false_or, and_self, and_true, true_and, Nat.le_refl, Nat.zero_add, Nat.mul_one, Nat.one_ne_zero, Nat.zero_le, highP, lowP, Option.map_some, Option.map_none, List.drop_zero, List.take_zero, List.length_cons, List.length_nil, List.nil_append, List.append_nil, List.cons_append, fillP, PV.cells?, PV.one, PV.cleans, PV.clean, PV.of?, List.all_cons, List.all_nil, List.take_succ_cons, List.drop_succ_cons, Bool.and_self, Int.natCast_nonneg, Int.toNat_natCast, Int.toNat_zero, h3]) (b.length + 1) 0 [accL .no L, .int .i64 L.length, .int .i64 (0 : Nat)] [] (by unfold accL; rfl) (Nat.zero_le _) (by omega)
    have o0 : ((0 : Nat) : Int) = 0 := rfl
    simp only [q24, evL_op, evL_sel, evL_nx, evL_exit, evL_ret, evL_join, evL_block, evL_cond, evK_some, evJ_nx, evJ_rt, evJ_ex, evB_nx, evB_rt, evB_ex, evC2_bool, evS_and, evS_or, evS_tf, evS_ft, ev_t, ev_s, ev_c, evalOp, bin_add, bin_sub, bin_mul, bin_eql, bin_neq, bin_lss, bin_leq, bin_gtr, bin_geq, sbin_eql, sbin_neq, b8, List.map_cons, List.map_nil, PV.rens, PV.ren, if_true, if_false, Bool.false_eq_true, reduceIte, Nat.reduceAdd, Nat.reduceSub, Nat.reduceMul, Nat.reduceEqDiff, Nat.reduceLeDiff, Int.reduceLE, Int.reduceLT, Int.reduceEq, Int.reduceToNat, Int.reduceAdd, Int.reduceSub, Int.reduceNeg, decide_true, decide_false, Bool.not_true, Bool.not_false, Bool.true_and, Bool.false_and, Bool.and_true, Bool.and_false, Bool.or_true, Bool.true_or, Bool.or_false, Bool.false_or, and_self, and_true, true_and, Nat.le_refl, Nat.zero_add, Nat.mul_one, Nat.one_ne_zero, Nat.zero_le, highP, lowP, Option.map_some, Option.map_none, List.drop_zero, List.take_zero, List.length_cons, List.length_nil, List.nil_append, List.append_nil, List.cons_append, fillP, PV.cells?, PV.one, PV.cleans, PV.clean, PV.of?, List.all_cons, List.all_nil, List.take_succ_cons, List.drop_succ_cons, Bool.and_self, Int.natCast_nonneg, Int.toNat_natCast, Int.toNat_zero, PV.rens, PV.ren, Tk.ren, T39, c1, c2, h2, accL, evL_loop, List.drop_zero, o0] at lp ⊢
    rw [lp]
    by_cases hlm : L.all cleanB = true
    · simp only [hlm, q24_2, evL_op, evL_sel, evL_nx, evL_exit, evL_ret, evL_join, evL_block, evL_cond, evK_some, evJ_nx, evJ_rt, evJ_ex, evB_nx, evB_rt, evB_ex, evC2_bool, evS_and, evS_or, evS_tf, evS_ft, ev_t, ev_s, ev_c, evalOp, bin_add, bin_sub, bin_mul, bin_eql, bin_neq, bin_lss, bin_leq, bin_gtr, bin_geq, sbin_eql, sbin_neq, b8, List.map_cons, List.map_nil, PV.rens, PV.ren, if_true, if_false, Bool.false_eq_true, reduceIte, Nat.reduceAdd, Nat.reduceSub, Nat.reduceMul, Nat.reduceEqDiff, Nat.reduceLeDiff, Int.reduceLE, Int.reduceLT, Int.reduceEq, Int.reduceToNat, Int.reduceAdd, Int.reduceSub, Int.reduceNeg, decide_true, decide_false, Bool.not_true, Bool.not_false, Bool.true_and, Bool.false_and, Bool.and_true, Bool.and_false, Bool.or_true, Bool.true_or, Bool.or_false, Bool.false_or, and_self, and_true, true_and, Nat.le_refl, Nat.zero_add, Nat.mul_one, Nat.one_ne_zero, Nat.zero_le, highP, lowP, Option.map_some, Option.map_none, List.drop_zero, List.take_zero, List.length_cons, List.length_nil, List.nil_append, List.append_nil, List.cons_append, fillP, PV.cells?, PV.one, PV.cleans, PV.clean, PV.of?, List.all_cons, List.all_nil, List.take_succ_cons, List.drop_succ_cons, Bool.and_self, Int.natCast_nonneg, Int.toNat_natCast, Int.toNat_zero]
    · simp only [hlm, q24_2, evL_op, evL_sel, evL_nx, evL_exit, evL_ret, evL_join, evL_block, evL_cond, evK_some, evJ_nx, evJ_rt, evJ_ex, evB_nx, evB_rt, evB_ex, evC2_bool, evS_and, evS_or, evS_tf, evS_ft, ev_t, ev_s, ev_c, evalOp, bin_add, bin_sub, bin_mul, bin_eql, bin_neq, bin_lss, bin_leq, bin_gtr, bin_geq, sbin_eql, sbin_neq, b8, List.map_cons, List.map_nil, PV.rens, PV.ren, if_true, if_false, Bool.false_eq_true, reduceIte, Nat.reduceAdd, Nat.reduceSub, Nat.reduceMul, Nat.reduceEqDiff, Nat.reduceLeDiff, Int.reduceLE, Int.reduceLT, Int.reduceEq, Int.reduceToNat, Int.reduceAdd, Int.reduceSub, Int.reduceNeg, decide_true, decide_false, Bool.not_true, Bool.not_false, Bool.true_and, Bool.false_and, Bool.and_true, Bool.and_false, Bool.or_true, Bool.true_or, Bool.or_false, Bool.false_or, and_self, and_true, true_and, Nat.le_refl, Nat.zero_add, Nat.mul_one, Nat.one_ne_zero, Nat.zero_le, highP, lowP, Option.map_some, Option.map_none, List.drop_zero, List.take_zero, List.length_cons, List.length_nil, List.nil_append, List.append_nil, List.cons_append, fillP, PV.cells?, PV.one, PV.cleans, PV.clean, PV.of?, List.all_cons, List.all_nil, List.take_succ_cons, List.drop_succ_cons, Bool.and_self, Int.natCast_nonneg, Int.toNat_natCast, Int.toNat_zero]
  · have h1' : (decide (b = []) || hasNl b) = false := by simpa using h1
    have h2 : (decide ((0 : Int) < b.length) && !hasNl b) = true := by rw [hb, h1']; rfl
    have hbd : body b = false := by unfold body; rw [h1']; rfl
    rw [hbd]
    simp only [q24, evL_op, evL_sel, evL_nx, evL_exit, evL_ret, evL_join, evL_block, evL_cond, evK_some, evJ_nx, evJ_rt, evJ_ex, evB_nx, evB_rt, evB_ex, evC2_bool, evS_and, evS_or, evS_tf, evS_ft, ev_t, ev_s, ev_c, evalOp, bin_add, bin_sub, bin_mul, bin_eql, bin_neq, bin_lss, bin_leq, bin_gtr, bin_geq, sbin_eql, sbin_neq, b8, List.map_cons, List.map_nil, PV.rens, PV.ren, if_true, if_false, Bool.false_eq_true, reduceIte, Nat.reduceAdd, Nat.reduceSub, Nat.reduceMul, Nat.reduceEqDiff, Nat.reduceLeDiff, Int.reduceLE, Int.reduceLT, Int.reduceEq, Int.reduceToNat, Int.reduceAdd, Int.reduceSub, Int.reduceNeg, decide_true, decide_false, Bool.not_true, Bool.not_false, Bool.true_and, Bool.false_and, Bool.and_true, Bool.and_false, Bool.or_true, Bool.true_or, Bool.or_false, Bool.false_or, and_self, and_true, true_and, Nat.le_refl, Nat.zero_add, Nat.mul_one, Nat.one_ne_zero, Nat.zero_le, highP, lowP, Option.map_some, Option.map_none, List.drop_zero, List.take_zero, List.length_cons, List.length_nil, List.nil_append, List.append_nil, List.cons_append, fillP, PV.cells?, PV.one, PV.cleans, PV.clean, PV.of?, List.all_cons, List.all_nil, List.take_succ_cons, List.drop_succ_cons, Bool.and_self, Int.natCast_nonneg, Int.toNat_natCast, Int.toNat_zero, PV.rens, PV.ren, Tk.ren, T39, c1, h2]
theorem body_join {ls : List (List UInt8)} (h : ∀ l ∈ ls, Cl l) : body (join ls) = true := by
  unfold body
  rw [lines_join h, List.all_eq_true.2 (fun l hl => cleanB_iff.2 (h l hl)), Bool.and_true]
  rcases List.eq_nil_or_concat ls with rfl | ⟨r, l, rfl⟩
  · rfl
  · rw [List.concat_eq_append, join_app, join_one]
    have : hasNl (join r ++ (l ++ [13, 10])) = true := by
      unfold hasNl
      rw [← List.append_assoc, List.length_append]
      simp
      omega
    rw [this, Bool.or_true]
/-! ### the document's answer -/
/-- Where the first line's end begins, from a place on. -/
def endV (b : List UInt8) (i : Nat) : Int := if Lib.index (b.drop i) nl = -1 then -1 else i + Lib.index (b.drop i) nl
theorem endV_no {b : List UInt8} {i : Nat} (h : Lib.index (b.drop i) nl = -1) : endV b i = -1 := if_pos h
theorem endV_yes {b : List UInt8} {i : Nat} {a : List UInt8} (h : Lib.index (b.drop i) nl = a.length) : endV b i = ((i + a.length : Nat) : Int) := by
  unfold endV
  rw [h, if_neg (by omega)]
  omega
theorem T35 (b : List UInt8) (hl : b.length ≤ 1000000000) (i0 : Nat) (hi0 : i0 ≤ b.length) : T 35 [sl8 b, .int .i64 i0] [] = some (.int .i64 (endV b i0), []) := by
  generalize hr : endV b i0 = r
  unfold endV at hr
  refine evT_of (k := b.length + 2) (F := l35) (H' := []) (e := [.int .i64 r]) (l := [.int .i64 r]) rfl rfl rfl ?_ rfl rfl
  show evL T (b.length + 2) q35 _ _ = _
  have lp := loop_law (n := 0) (body := evL T (b.length + 2) q35_1) (σ := Nat) (fun i => [sl8 b, .int .i64 i]) (fun _ => []) (fun i => b.length + 1 - i) (fun i => i ≤ b.length)
    (fun i => if Lib.index (b.drop i) nl = -1 then (.ex 0, [], []) else (.rt, [.int .i64 (i + Lib.index (b.drop i) nl)], [])) (by
      intro i hi
      have w1 := wr1 (show i < 9223372036854775807 by omega)
      rcases Nat.lt_or_ge (i + 1) b.length with h | h
      · have h1 : i < b.length := by omega
        have h3 : ((i + 1 : Nat) : Int) < b.length := by omega
        have h4 : (i : Int) < b.length := by omega
        have g1 := get_b8 h1
        have g2 := get_b8 h
        have hh : (b.drop (i + 1)).head? = some b[i + 1] := by rw [List.drop_eq_getElem_cons h]; rfl
        have hd := idx_cons b[i] (b.drop (i + 1)) nl
        rw [← List.drop_eq_getElem_cons h1, List.drop_eq_getElem_cons h1, pre_nl, hh] at hd
        have e1 : decide (((b[i]).toNat : Int) = 13) = (b[i] == 13) := by
          by_cases hc : b[i] = 13
          · rw [hc]; rfl
          · have : ¬ ((b[i]).toNat : Int) = 13 := fun e => hc (UInt8.toNat_inj.1 (by show _ = 13; omega))
            rw [decide_eq_false this]; simp [hc]
        have e2 : decide (((b[i + 1]).toNat : Int) = 10) = (b[i + 1] == 10) := by
          by_cases hc : b[i + 1] = 10
          · rw [hc]; rfl
          · have : ¬ ((b[i + 1]).toNat : Int) = 10 := fun e => hc (UInt8.toNat_inj.1 (by show _ = 10; omega))
            rw [decide_eq_false this]; simp [hc]
        have e3 : (some b[i + 1] == some 10) = (b[i + 1] == 10) := rfl
        rw [e3] at hd
        rw [← List.drop_eq_getElem_cons h1] at hd
        by_cases hc : (b[i] == 13 && b[i + 1] == 10) = true
        · rw [if_pos hc] at hd
          rw [hd]
          refine .inl ⟨?_, by simp⟩
          simp only [q35_1, q35_0, evL_op, evL_sel, evL_nx, evL_exit, evL_ret, evL_join, evL_block, evL_cond, evK_some, evJ_nx, evJ_rt, evJ_ex, evB_nx, evB_rt, evB_ex, evC2_bool, evS_and, evS_or, evS_tf, evS_ft, ev_t, ev_s, ev_c, evalOp, bin_add, bin_sub, bin_mul, bin_eql, bin_neq, bin_lss, bin_leq, bin_gtr, bin_geq, sbin_eql, sbin_neq, b8, List.map_cons, List.map_nil, PV.rens, PV.ren, if_true, if_false, Bool.false_eq_true, reduceIte, Nat.reduceAdd, Nat.reduceSub, Nat.reduceMul, Nat.reduceEqDiff, Nat.reduceLeDiff, Int.reduceLE, Int.reduceLT, Int.reduceEq, Int.reduceToNat, Int.reduceAdd, Int.reduceSub, Int.reduceNeg, decide_true, decide_false, Bool.not_true, Bool.not_false, Bool.true_and, Bool.false_and, Bool.and_true, Bool.and_false, Bool.or_true, Bool.true_or, Bool.or_false, Bool.false_or, and_self, and_true, true_and, Nat.le_refl, Nat.zero_add, Nat.mul_one, Nat.one_ne_zero, Nat.zero_le, highP, lowP, Option.map_some, Option.map_none, List.drop_zero, List.take_zero, List.length_cons, List.length_nil, List.nil_append, List.append_nil, List.cons_append, fillP, PV.cells?, PV.one, PV.cleans, PV.clean, PV.of?, List.all_cons, List.all_nil, List.take_succ_cons, List.drop_succ_cons, Bool.and_self, Int.natCast_nonneg, Int.toNat_natCast, Int.toNat_zero, w1, h3, h4, g1, g2, e1, e2, hc, Int.add_zero, if_neg (show ¬ (0 : Int) = -1 by decide)]
        · rw [if_neg hc] at hd
          have hc' : (b[i] == 13 && b[i + 1] == 10) = false := by simpa using hc
          refine .inr ⟨i + 1, ?_⟩
          apply Exists.intro
          apply Exists.intro
          refine ⟨?_, ?_, by omega, by omega, ?_⟩
          · simp only [q35_1, q35_0, evL_op, evL_sel, evL_nx, evL_exit, evL_ret, evL_join, evL_block, evL_cond, evK_some, evJ_nx, evJ_rt, evJ_ex, evB_nx, evB_rt, evB_ex, evC2_bool, evS_and, evS_or, evS_tf, evS_ft, ev_t, ev_s, ev_c, evalOp, bin_add, bin_sub, bin_mul, bin_eql, bin_neq, bin_lss, bin_leq, bin_gtr, bin_geq, sbin_eql, sbin_neq, b8, List.map_cons, List.map_nil, PV.rens, PV.ren, if_true, if_false, Bool.false_eq_true, reduceIte, Nat.reduceAdd, Nat.reduceSub, Nat.reduceMul, Nat.reduceEqDiff, Nat.reduceLeDiff, Int.reduceLE, Int.reduceLT, Int.reduceEq, Int.reduceToNat, Int.reduceAdd, Int.reduceSub, Int.reduceNeg, decide_true, decide_false, Bool.not_true, Bool.not_false, Bool.true_and, Bool.false_and, Bool.and_true, Bool.and_false, Bool.or_true, Bool.true_or, Bool.or_false, Bool.false_or, and_self, and_true, true_and, Nat.le_refl, Nat.zero_add, Nat.mul_one, Nat.one_ne_zero, Nat.zero_le, highP, lowP, Option.map_some, Option.map_none, List.drop_zero, List.take_zero, List.length_cons, List.length_nil, List.nil_append, List.append_nil, List.cons_append, fillP, PV.cells?, PV.one, PV.cleans, PV.clean, PV.of?, List.all_cons, List.all_nil, List.take_succ_cons, List.drop_succ_cons, Bool.and_self, Int.natCast_nonneg, Int.toNat_natCast, Int.toNat_zero, w1, h3, h4, g1, g2, e1, e2, hc']
            rfl
          · rfl
          · rw [hd]
            by_cases hm : Lib.index (b.drop (i + 1)) nl = -1
            · rw [if_pos hm, if_pos hm, if_pos rfl]
            · have := Lib.index_ge (b.drop (i + 1)) nl
              rw [if_neg hm, if_neg hm, if_neg (by omega)]
              congr 4
              omega
      · refine .inl ?_
        have h3 : ¬ ((i + 1 : Nat) : Int) < b.length := by omega
        have hm : Lib.index (b.drop i) nl = -1 := by
          have : (b.drop i).length ≤ 1 := by simp; omega
          match hb : b.drop i, this with
          | [], _ => rfl
          | [x], _ => rw [idx_cons, pre_nl, if_neg (by simp), if_pos (by rfl)]
        rw [hm, if_pos rfl]
        refine ⟨?_, by simp⟩
        simp only [q35_1, evL_op, evL_sel, evL_nx, evL_exit, evL_ret, evL_join, evL_block, evL_cond, evK_some, evJ_nx, evJ_rt, evJ_ex, evB_nx, evB_rt, evB_ex, evC2_bool, evS_and, evS_or, evS_tf, evS_ft, ev_t, ev_s, ev_c, evalOp, bin_add, bin_sub, bin_mul, bin_eql, bin_neq, bin_lss, bin_leq, bin_gtr, bin_geq, sbin_eql, sbin_neq, b8, List.map_cons, List.map_nil, PV.rens, PV.ren, if_true, if_false, Bool.false_eq_true, reduceIte, Nat.reduceAdd, Nat.reduceSub, Nat.reduceMul, Nat.reduceEqDiff, Nat.reduceLeDiff, Int.reduceLE, Int.reduceLT, Int.reduceEq, Int.reduceToNat, Int.reduceAdd, Int.reduceSub, Int.reduceNeg, decide_true, decide_false, Bool.not_true, Bool.not_false, Bool.true_and, Bool.false_and, Bool.and_true, Bool.and_false, Bool.or_true, Bool.true_or, Bool.or_false, Bool.false_or, and_self, and_true, true_and, Nat.le_refl, Nat.zero_add, Nat.mul_one, Nat.one_ne_zero, Nat.zero_le, highP, lowP, Option.map_some, Option.map_none, List.drop_zero, List.take_zero, List.length_cons, List.length_nil, List.nil_append, List.append_nil, List.cons_append, fillP, PV.cells?, PV.one, PV.cleans, PV.clean, PV.of?, List.all_cons, List.all_nil, List.take_succ_cons, List.drop_succ_cons, Bool.and_self, Int.natCast_nonneg, Int.toNat_natCast, Int.toNat_zero, w1, h3]) (b.length + 2) i0 [sl8 b, .int .i64 i0] [] rfl hi0 (by omega)
  simp only [q35, evL_op, evL_sel, evL_nx, evL_exit, evL_ret, evL_join, evL_block, evL_cond, evK_some, evJ_nx, evJ_rt, evJ_ex, evB_nx, evB_rt, evB_ex, evC2_bool, evS_and, evS_or, evS_tf, evS_ft, ev_t, ev_s, ev_c, evalOp, bin_add, bin_sub, bin_mul, bin_eql, bin_neq, bin_lss, bin_leq, bin_gtr, bin_geq, sbin_eql, sbin_neq, b8, List.map_cons, List.map_nil, PV.rens, PV.ren, if_true, if_false, Bool.false_eq_true, reduceIte, Nat.reduceAdd, Nat.reduceSub, Nat.reduceMul, Nat.reduceEqDiff, Nat.reduceLeDiff, Int.reduceLE, Int.reduceLT, Int.reduceEq, Int.reduceToNat, Int.reduceAdd, Int.reduceSub, Int.reduceNeg, decide_true, decide_false, Bool.not_true, Bool.not_false, Bool.true_and, Bool.false_and, Bool.and_true, Bool.and_false, Bool.or_true, Bool.true_or, Bool.or_false, Bool.false_or, and_self, and_true, true_and, Nat.le_refl, Nat.zero_add, Nat.mul_one, Nat.one_ne_zero, Nat.zero_le, highP, lowP, Option.map_some, Option.map_none, List.drop_zero, List.take_zero, List.length_cons, List.length_nil, List.nil_append, List.append_nil, List.cons_append, fillP, PV.cells?, PV.one, PV.cleans, PV.clean, PV.of?, List.all_cons, List.all_nil, List.take_succ_cons, List.drop_succ_cons, Bool.and_self, Int.natCast_nonneg, Int.toNat_natCast, Int.toNat_zero, evL_loop] at lp ⊢
  rw [lp, ← hr]
  by_cases hm : Lib.index (b.drop i0) nl = -1
  · simp only [hm, q35_2, evL_op, evL_sel, evL_nx, evL_exit, evL_ret, evL_join, evL_block, evL_cond, evK_some, evJ_nx, evJ_rt, evJ_ex, evB_nx, evB_rt, evB_ex, evC2_bool, evS_and, evS_or, evS_tf, evS_ft, ev_t, ev_s, ev_c, evalOp, bin_add, bin_sub, bin_mul, bin_eql, bin_neq, bin_lss, bin_leq, bin_gtr, bin_geq, sbin_eql, sbin_neq, b8, List.map_cons, List.map_nil, PV.rens, PV.ren, if_true, if_false, Bool.false_eq_true, reduceIte, Nat.reduceAdd, Nat.reduceSub, Nat.reduceMul, Nat.reduceEqDiff, Nat.reduceLeDiff, Int.reduceLE, Int.reduceLT, Int.reduceEq, Int.reduceToNat, Int.reduceAdd, Int.reduceSub, Int.reduceNeg, decide_true, decide_false, Bool.not_true, Bool.not_false, Bool.true_and, Bool.false_and, Bool.and_true, Bool.and_false, Bool.or_true, Bool.true_or, Bool.or_false, Bool.false_or, and_self, and_true, true_and, Nat.le_refl, Nat.zero_add, Nat.mul_one, Nat.one_ne_zero, Nat.zero_le, highP, lowP, Option.map_some, Option.map_none, List.drop_zero, List.take_zero, List.length_cons, List.length_nil, List.nil_append, List.append_nil, List.cons_append, fillP, PV.cells?, PV.one, PV.cleans, PV.clean, PV.of?, List.all_cons, List.all_nil, List.take_succ_cons, List.drop_succ_cons, Bool.and_self, Int.natCast_nonneg, Int.toNat_natCast, Int.toNat_zero]
  · simp only [hm, q35_2, evL_op, evL_sel, evL_nx, evL_exit, evL_ret, evL_join, evL_block, evL_cond, evK_some, evJ_nx, evJ_rt, evJ_ex, evB_nx, evB_rt, evB_ex, evC2_bool, evS_and, evS_or, evS_tf, evS_ft, ev_t, ev_s, ev_c, evalOp, bin_add, bin_sub, bin_mul, bin_eql, bin_neq, bin_lss, bin_leq, bin_gtr, bin_geq, sbin_eql, sbin_neq, b8, List.map_cons, List.map_nil, PV.rens, PV.ren, if_true, if_false, Bool.false_eq_true, reduceIte, Nat.reduceAdd, Nat.reduceSub, Nat.reduceMul, Nat.reduceEqDiff, Nat.reduceLeDiff, Int.reduceLE, Int.reduceLT, Int.reduceEq, Int.reduceToNat, Int.reduceAdd, Int.reduceSub, Int.reduceNeg, decide_true, decide_false, Bool.not_true, Bool.not_false, Bool.true_and, Bool.false_and, Bool.and_true, Bool.and_false, Bool.or_true, Bool.true_or, Bool.or_false, Bool.false_or, and_self, and_true, true_and, Nat.le_refl, Nat.zero_add, Nat.mul_one, Nat.one_ne_zero, Nat.zero_le, highP, lowP, Option.map_some, Option.map_none, List.drop_zero, List.take_zero, List.length_cons, List.length_nil, List.nil_append, List.append_nil, List.cons_append, fillP, PV.cells?, PV.one, PV.cleans, PV.clean, PV.of?, List.all_cons, List.all_nil, List.take_succ_cons, List.drop_succ_cons, Bool.and_self, Int.natCast_nonneg, Int.toNat_natCast, Int.toNat_zero]
end Go.Proofs.YtmdnloajpjfbmaaDoor.Tab

namespace Go.Proofs.YtmdnloajpjfbmaaDoor.Tab
set_option linter.all false
open Go Go.RowKit Go.Proofs.YtmdnloajpjfbmaaDoor.Ev
theorem drop_idx {b : List UInt8} {at_ : Nat} {a r : List UInt8} (h : b.drop at_ = a ++ 13 :: 10 :: r) : at_ + a.length + 2 ≤ b.length ∧ (b.take (at_ + a.length)).drop at_ = a ∧ b.drop (at_ + a.length + 2) = r := by
  have hl : (b.drop at_).length = a.length + (r.length + 2) := by rw [h]; simp
  rw [List.length_drop] at hl
  refine ⟨by omega, ?_, ?_⟩
  · rw [List.drop_take, h, show at_ + a.length - at_ = a.length by omega, List.take_left]
  · rw [show at_ + a.length + 2 = at_ + (a.length + 2) by omega, ← List.drop_drop, h, List.drop_append, List.drop_of_length_le (by omega)]
    simp
/-- Does a text begin so? -/
def begB (s p : List UInt8) : Bool := decide ((p.length : Int) ≤ s.length) && decide (s.take p.length = p)
theorem begB_app (p r : List UInt8) : begB (p ++ r) p = true := by unfold begB; simp; omega
def trimP (s p : List UInt8) : List UInt8 := if begB s p = true then s.drop p.length else s
theorem trimP_app (p r : List UInt8) : trimP (p ++ r) p = r := by unfold trimP; rw [if_pos (begB_app p r), List.drop_left]
theorem trimP_len (s p : List UInt8) : (trimP s p).length ≤ s.length := by unfold trimP; split <;> simp
/-- The document's: does a text begin so, in letters great or small? -/
def begF (s w : List UInt8) : Bool := decide ((w.length : Int) ≤ s.length) && decide (foldS (s.take w.length) = w)
end Go.Proofs.YtmdnloajpjfbmaaDoor.Tab

namespace Go.Proofs.YtmdnloajpjfbmaaDoor.Tab
set_option linter.all false
open Go Go.RowKit Go.Proofs.YtmdnloajpjfbmaaDoor.Ev
/-- 0: at a line's begin; 1: in a line; 2: behind a 13. -/
def au : List UInt8 → Nat → Bool
  | [], s => s == 0
  | x :: r, s => if s = 2 then (if x = 10 then au r 0 else false) else if x = 13 then au r 2 else if x = 10 then false else au r 1
theorem au_clean : ∀ (l r : List UInt8) (s : Nat), Cl l → s ≠ 2 → au (l ++ r) s = au r (if l = [] then s else 1)
  | [], r, s, _, _ => by simp
  | x :: l, r, s, h, hs => by
    rw [List.cons_append]
    simp only [au]
    rw [if_neg hs, if_neg h.head.1, if_neg h.head.2, au_clean l r 1 h.tail (by decide)]
    simp
theorem au_line (l r : List UInt8) (h : Cl l) : au (l ++ 13 :: 10 :: r) 0 = au r 0 := by
  rw [au_clean l _ 0 h (by decide)]
  by_cases e : l = []
  · simp [e, au]
  · simp [e, au]
theorem au_join (r : List UInt8) : ∀ ls : List (List UInt8), (∀ l ∈ ls, Cl l) → au (join ls ++ r) 0 = au r 0
  | [], _ => rfl
  | l :: ls, h => by
    rw [show join (l :: ls) ++ r = l ++ 13 :: 10 :: (join ls ++ r) by simp [join_cons], au_line _ _ (h l List.mem_cons_self), au_join r ls (fun y hy => h y (List.mem_cons_of_mem _ hy))]
theorem au_body (ls : List (List UInt8)) (h : ∀ l ∈ ls, Cl l) : au (join ls) 0 = true := by
  have := au_join [] ls h
  simpa [au] using this
theorem au_ex : ∀ (b : List UInt8) (s : Nat), au b s = true →
    (s = 2 → ∃ ls, b = 10 :: join ls ∧ ∀ l ∈ ls, Cl l) ∧ (s = 0 → ∃ ls, b = join ls ∧ ∀ l ∈ ls, Cl l) ∧ (s ≠ 2 → s ≠ 0 → ∃ l ls, b = l ++ 13 :: 10 :: join ls ∧ Cl l ∧ ∀ l ∈ ls, Cl l)
  | [], s, h => by
    have hs : s = 0 := by simpa [au] using h
    subst hs
    exact ⟨fun h => by omega, fun _ => ⟨[], rfl, fun _ h => by cases h⟩, fun _ h => absurd rfl h⟩
  | x :: r, s, h => by
    simp only [au] at h
    by_cases h2 : s = 2
    · subst h2
      rw [if_pos rfl] at h
      by_cases hx : x = 10
      · rw [if_pos hx] at h
        obtain ⟨ls, rfl, hc⟩ := (au_ex r 0 h).2.1 rfl
        exact ⟨fun _ => ⟨ls, by rw [hx], hc⟩, fun h => by omega, fun h _ => absurd rfl h⟩
      · rw [if_neg hx] at h; cases h
    · rw [if_neg h2] at h
      have key : ∃ l ls, x :: r = l ++ 13 :: 10 :: join ls ∧ Cl l ∧ ∀ l ∈ ls, Cl l := by
        by_cases hx : x = 13
        · rw [if_pos hx] at h
          obtain ⟨ls, rfl, hc⟩ := (au_ex r 2 h).1 rfl
          exact ⟨[], ls, by rw [hx]; rfl, Cl.nil, hc⟩
        · rw [if_neg hx] at h
          by_cases hy : x = 10
          · rw [if_pos hy] at h; cases h
          · rw [if_neg hy] at h
            obtain ⟨l, ls, rfl, hl, hc⟩ := (au_ex r 1 h).2.2 (by decide) (by decide)
            refine ⟨x :: l, ls, rfl, fun y hy' => ?_, hc⟩
            rcases List.mem_cons.1 hy' with rfl | hy'
            · exact ⟨hx, hy⟩
            · exact hl y hy'
      refine ⟨fun h => absurd h h2, fun _ => ?_, fun _ _ => key⟩
      obtain ⟨l, ls, e, hl, hc⟩ := key
      refine ⟨l :: ls, by rw [e, join_cons], fun y hy => ?_⟩
      rcases List.mem_cons.1 hy with rfl | hy
      · exact hl
      · exact hc y hy
theorem au_iff (b : List UInt8) : au b 0 = true ↔ ∃ ls, b = join ls ∧ ∀ l ∈ ls, Cl l :=
  ⟨fun h => (au_ex b 0 h).2.1 rfl, fun ⟨ls, e, h⟩ => by rw [e]; exact au_body ls h⟩
theorem idx_has (r : List UInt8) : ∀ a : List UInt8, Lib.index (a ++ 13 :: 10 :: r) nl ≠ -1
  | [] => by
    show Lib.index (13 :: 10 :: r) nl ≠ -1
    rw [idx_cons, pre_nl, if_pos (by rfl)]; decide
  | x :: a => by
    have ih := idx_has r a
    have hg := Lib.index_ge (a ++ 13 :: 10 :: r) nl
    show Lib.index (x :: (a ++ 13 :: 10 :: r)) nl ≠ -1
    rw [idx_cons]
    by_cases hp : nl.isPrefixOf (x :: (a ++ 13 :: 10 :: r)) = true
    · rw [if_pos hp]; decide
    · rw [if_neg hp, if_neg ih]; omega
/-- A text is its lines, and a rest without a line's end. -/
theorem lines_rest : ∀ (n : Nat) (b : List UInt8), b.length ≤ n → ∃ t, b = join (lines b) ++ t ∧ Lib.index t nl = -1
  | 0, b, hn => by
    obtain rfl : b = [] := List.eq_nil_of_length_eq_zero (by omega)
    exact ⟨[], by rw [lines_no rfl]; rfl, rfl⟩
  | n + 1, b, hn => by
    rcases idx_split b with h | ⟨a, r, rfl, _, h⟩
    · exact ⟨b, by rw [lines_no h]; rfl, h⟩
    · simp only [List.length_append, List.length_cons] at hn
      obtain ⟨t, h1, h2⟩ := lines_rest n r (by omega)
      refine ⟨t, ?_, h2⟩
      rw [lines_cons h, join_cons]
      conv => lhs; rw [h1]
      simp
theorem join_last {ls : List (List UInt8)} (h : ls ≠ []) : ∃ p, join ls = p ++ [13, 10] := by
  rcases List.eq_nil_or_concat ls with rfl | ⟨r, l, rfl⟩
  · exact absurd rfl h
  · exact ⟨join r ++ l, by rw [List.concat_eq_append, join_app, join_one]; simp⟩
theorem hasNl_iff {b : List UInt8} (h : hasNl b = true) : ∃ p, b = p ++ [13, 10] := by
  unfold hasNl at h
  simp only [Bool.and_eq_true, decide_eq_true_eq] at h
  exact ⟨b.take (b.length - 2), by rw [← show b.drop (b.length - 2) = [13, 10] from h.2, List.take_append_drop]⟩
theorem body_lines {b : List UInt8} (h : body b = true) : b = join (lines b) ∧ ∀ l ∈ lines b, Cl l := by
  unfold body at h
  simp only [Bool.and_eq_true, Bool.or_eq_true, decide_eq_true_eq] at h
  obtain ⟨h1, h2⟩ := h
  have hc : ∀ l ∈ lines b, Cl l := fun l hl => cleanB_iff.1 (List.all_eq_true.1 h2 l hl)
  refine ⟨?_, hc⟩
  rcases h1 with rfl | h1
  · rw [lines_no rfl]; rfl
  · obtain ⟨t, h3, h4⟩ := lines_rest b.length b (Nat.le_refl _)
    obtain ⟨p, hp⟩ := hasNl_iff h1
    have ht : t = [] := by
      rcases List.eq_nil_or_concat t with rfl | ⟨t1, x, rfl⟩
      · rfl
      · exfalso
        rw [List.concat_eq_append] at h3 h4
        have e := h3.symm.trans hp
        have e2 : join (lines b) ++ t1 = p ++ [13] ∧ x = 10 := by
          have : (join (lines b) ++ t1) ++ [x] = (p ++ [13]) ++ [10] := by simpa using e
          have := List.append_inj' this rfl
          exact ⟨this.1, by simpa using this.2⟩
        obtain ⟨e2, rfl⟩ := e2
        rcases List.eq_nil_or_concat t1 with rfl | ⟨t2, y, rfl⟩
        · rw [List.append_nil] at e2
          by_cases hl : lines b = []
          · rw [hl] at e2; simp [join_nil] at e2
          · obtain ⟨q, hq⟩ := join_last hl
            rw [hq] at e2
            have : (q ++ [13]) ++ [10] = p ++ [13] := by simpa using e2
            have := (List.append_inj' this rfl).2
            simp at this
        · rw [List.concat_eq_append] at e2 h4
          have : (join (lines b) ++ t2) ++ [y] = p ++ [13] := by simpa using e2
          have hy := (List.append_inj' this rfl).2
          obtain rfl : y = 13 := by simpa using hy
          exact idx_has [] t2 (by simpa using h4)
    rw [ht, List.append_nil] at h3
    exact h3
theorem body_au (b : List UInt8) : body b = au b 0 := by
  rw [Bool.eq_iff_iff, au_iff]
  constructor
  · intro h
    exact ⟨lines b, body_lines h⟩
  · rintro ⟨ls, rfl, h⟩
    exact body_join h
/-- The state ahead of a place. -/
def sta (b : List UInt8) (i : Nat) : Nat := if i = 0 then 0 else match b[i - 1]? with | some x => if x = 13 then 2 else if x = 10 then 0 else 1 | none => 0
theorem sta_succ {b : List UInt8} {i : Nat} (h : i < b.length) : sta b (i + 1) = if b[i] = 13 then 2 else if b[i] = 10 then 0 else 1 := by
  unfold sta
  rw [if_neg (by omega), show i + 1 - 1 = i by omega, List.getElem?_eq_getElem h]
theorem byte_eqd' (c : UInt8) (n : Nat) (hn : n < 256) : decide ((c.toNat : Int) = n) = (c == UInt8.ofNat n) := by
  have := byte_ne c n hn
  rw [← Bool.not_not (decide ((c.toNat : Int) = n)), this, Bool.not_not]
theorem au_13 {r : List UInt8} {s : Nat} (h : s ≠ 2) : au (13 :: r) s = au r 2 := by
  conv => lhs; unfold au
  rw [if_neg h, if_pos rfl]
theorem au_10 {r : List UInt8} {s : Nat} (h : s ≠ 2) : au (10 :: r) s = false := by
  unfold au
  rw [if_neg h, if_neg (by decide), if_pos rfl]
theorem au_210 {r : List UInt8} : au (10 :: r) 2 = au r 0 := by
  conv => lhs; unfold au
  rw [if_pos rfl, if_pos rfl]
theorem au_2 {x : UInt8} {r : List UInt8} (h : x ≠ 10) : au (x :: r) 2 = false := by
  unfold au
  rw [if_pos rfl, if_neg h]
theorem au_1 {x : UInt8} {r : List UInt8} {s : Nat} (h : s ≠ 2) (h1 : x ≠ 13) (h2 : x ≠ 10) : au (x :: r) s = au r 1 := by
  conv => lhs; unfold au
  rw [if_neg h, if_neg h1, if_neg h2]
theorem T9 (b : List UInt8) (hl : b.length ≤ 1000000000) : T 9 [sl8 b] [] = some (.bool (body b), []) := by
  rw [body_au]
  refine evT_of (k := b.length + 2) (F := l9) (H' := []) (e := [.bool (au b 0)]) (l := [.bool (au b 0)]) rfl rfl rfl ?_ rfl rfl
  show evL T (b.length + 2) q9 _ _ = _
  obtain ⟨r, lp, hr⟩ := loop_post (n := 0) (body := evL T (b.length + 2) q9_1) (σ := Nat) (fun i => [sl8 b, .int .i64 i]) (fun _ => []) (fun i => b.length - i)
    (fun i => i ≤ b.length ∧ au b 0 = au (b.drop i) (sta b i) ∧ (sta b i = 2 → ∃ r, b.drop i = 10 :: r)) (fun r => (r = (.rt, [.bool false], []) ∧ au b 0 = false) ∨ (r = (.ex 0, [sl8 b], []) ∧ au b 0 = (sta b b.length == 0) ∧ sta b b.length ≠ 2)) (by
      rintro i ⟨hi, ha, h2⟩
      have w1 := wr1 (show i < 9223372036854775807 by omega)
      rcases Nat.lt_or_ge i b.length with h | h
      · have g1 : (i : Int) < b.length := by omega
        have hg := get_b8 h
        have hs := sta_succ h
        rw [List.drop_eq_getElem_cons h] at ha h2
        have e13 := byte_eqd' b[i] 13 (by decide)
        have e10 := byte_eqd' b[i] 10 (by decide)
        rw [show ((13 : Nat) : Int) = 13 from rfl, show UInt8.ofNat 13 = 13 from rfl] at e13
        rw [show ((10 : Nat) : Int) = 10 from rfl, show UInt8.ofNat 10 = 10 from rfl] at e10
        by_cases c13 : b[i] = 13
        · have n2 : sta b i ≠ 2 := fun e => by
            obtain ⟨r, hr⟩ := h2 e
            rw [c13] at hr
            exact absurd (List.cons.inj hr).1 (by decide)
          have k13 : (b[i] == 13) = true := by rw [c13]; rfl
          have k10 : (b[i] == 10) = false := by rw [c13]; rfl
          rw [c13] at ha
          rw [au_13 n2] at ha
          rcases Nat.lt_or_ge (i + 1) b.length with h3 | h3
          · have g2 : ¬ (b.length : Int) ≤ ((i + 1 : Nat) : Int) := by omega
            have g3 : ((i + 1 : Nat) : Int) < b.length := by omega
            have hg2 := get_b8 h3
            have f10 := byte_eqd' b[i + 1] 10 (by decide)
            rw [show ((10 : Nat) : Int) = 10 from rfl, show UInt8.ofNat 10 = 10 from rfl] at f10
            rw [List.drop_eq_getElem_cons h3] at ha
            by_cases d10 : b[i + 1] = 10
            · have k2 : (b[i + 1] == 10) = true := by rw [d10]; rfl
              refine .inr ⟨i + 1, [sl8 b, .int .i64 ((i + 1 : Nat) : Int)], [], ?_, rfl, ⟨h, ?_, fun _ => ⟨_, by rw [List.drop_eq_getElem_cons h3, d10]⟩⟩, by omega⟩
              · simp only [q9_1, q9_0, evL_op, evL_sel, evL_nx, evL_exit, evL_ret, evL_join, evL_block, evL_cond, evK_some, evJ_nx, evJ_rt, evJ_ex, evB_nx, evB_rt, evB_ex, evC2_bool, evS_and, evS_or, evS_tf, evS_ft, ev_t, ev_s, ev_c, evalOp, bin_add, bin_sub, bin_mul, bin_eql, bin_neq, bin_lss, bin_leq, bin_gtr, bin_geq, sbin_eql, sbin_neq, b8, List.map_cons, List.map_nil, PV.rens, PV.ren, if_true, if_false, Bool.false_eq_true, reduceIte, Nat.reduceAdd, Nat.reduceSub, Nat.reduceMul, Nat.reduceEqDiff, Nat.reduceLeDiff, Int.reduceLE, Int.reduceLT, Int.reduceEq, Int.reduceToNat, Int.reduceAdd, Int.reduceSub, Int.reduceNeg, decide_true, decide_false, Bool.not_true, Bool.not_false, Bool.true_and, Bool.false_and, Bool.and_true, Bool.and_false, Bool.or_true, Bool.true_or, Bool.or_false, Bool.false_or, and_self, and_true, true_and, Nat.le_refl, Nat.zero_add, Nat.mul_one, Nat.one_ne_zero, Nat.zero_le, highP, lowP, Option.map_some, Option.map_none, List.drop_zero, List.take_zero, List.length_cons, List.length_nil, List.nil_append, List.append_nil, List.cons_append, fillP, PV.cells?, PV.one, PV.cleans, PV.clean, PV.of?, List.all_cons, List.all_nil, List.take_succ_cons, List.drop_succ_cons, Bool.and_self, Int.natCast_nonneg, Int.toNat_natCast, Int.toNat_zero, PV.of?, Tk.ren, tailP, evL_loop, or_true, true_or, Nat.zero_lt_one, Nat.sub_zero, List.getElem?_cons_zero, List.getElem?_cons_succ, List.set_cons_zero, List.set_cons_succ, List.take_length, g1, hg, e13, e10, k13, k10, w1, g2, g3, hg2, f10, k2]
              · rw [hs, if_pos c13, List.drop_eq_getElem_cons h3]; exact ha
            · have k2 : (b[i + 1] == 10) = false := by simp [d10]
              refine .inl ⟨_, ?_, ?_, .inl ⟨rfl, by rw [ha, au_2 d10]⟩⟩
              · simp only [q9_1, q9_0, evL_op, evL_sel, evL_nx, evL_exit, evL_ret, evL_join, evL_block, evL_cond, evK_some, evJ_nx, evJ_rt, evJ_ex, evB_nx, evB_rt, evB_ex, evC2_bool, evS_and, evS_or, evS_tf, evS_ft, ev_t, ev_s, ev_c, evalOp, bin_add, bin_sub, bin_mul, bin_eql, bin_neq, bin_lss, bin_leq, bin_gtr, bin_geq, sbin_eql, sbin_neq, b8, List.map_cons, List.map_nil, PV.rens, PV.ren, if_true, if_false, Bool.false_eq_true, reduceIte, Nat.reduceAdd, Nat.reduceSub, Nat.reduceMul, Nat.reduceEqDiff, Nat.reduceLeDiff, Int.reduceLE, Int.reduceLT, Int.reduceEq, Int.reduceToNat, Int.reduceAdd, Int.reduceSub, Int.reduceNeg, decide_true, decide_false, Bool.not_true, Bool.not_false, Bool.true_and, Bool.false_and, Bool.and_true, Bool.and_false, Bool.or_true, Bool.true_or, Bool.or_false, Bool.false_or, and_self, and_true, true_and, Nat.le_refl, Nat.zero_add, Nat.mul_one, Nat.one_ne_zero, Nat.zero_le, highP, lowP, Option.map_some, Option.map_none, List.drop_zero, List.take_zero, List.length_cons, List.length_nil, List.nil_append, List.append_nil, List.cons_append, fillP, PV.cells?, PV.one, PV.cleans, PV.clean, PV.of?, List.all_cons, List.all_nil, List.take_succ_cons, List.drop_succ_cons, Bool.and_self, Int.natCast_nonneg, Int.toNat_natCast, Int.toNat_zero, PV.of?, Tk.ren, tailP, evL_loop, or_true, true_or, Nat.zero_lt_one, Nat.sub_zero, List.getElem?_cons_zero, List.getElem?_cons_succ, List.set_cons_zero, List.set_cons_succ, List.take_length, g1, hg, e13, e10, k13, k10, w1, g2, g3, hg2, f10, k2]
              · simp
          · have g2 : (b.length : Int) ≤ ((i + 1 : Nat) : Int) := by omega
            rw [List.drop_of_length_le h3] at ha
            refine .inl ⟨_, ?_, ?_, .inl ⟨rfl, by rw [ha]; rfl⟩⟩
            · simp only [q9_1, q9_0, evL_op, evL_sel, evL_nx, evL_exit, evL_ret, evL_join, evL_block, evL_cond, evK_some, evJ_nx, evJ_rt, evJ_ex, evB_nx, evB_rt, evB_ex, evC2_bool, evS_and, evS_or, evS_tf, evS_ft, ev_t, ev_s, ev_c, evalOp, bin_add, bin_sub, bin_mul, bin_eql, bin_neq, bin_lss, bin_leq, bin_gtr, bin_geq, sbin_eql, sbin_neq, b8, List.map_cons, List.map_nil, PV.rens, PV.ren, if_true, if_false, Bool.false_eq_true, reduceIte, Nat.reduceAdd, Nat.reduceSub, Nat.reduceMul, Nat.reduceEqDiff, Nat.reduceLeDiff, Int.reduceLE, Int.reduceLT, Int.reduceEq, Int.reduceToNat, Int.reduceAdd, Int.reduceSub, Int.reduceNeg, decide_true, decide_false, Bool.not_true, Bool.not_false, Bool.true_and, Bool.false_and, Bool.and_true, Bool.and_false, Bool.or_true, Bool.true_or, Bool.or_false, Bool.false_or, and_self, and_true, true_and, Nat.le_refl, Nat.zero_add, Nat.mul_one, Nat.one_ne_zero, Nat.zero_le, highP, lowP, Option.map_some, Option.map_none, List.drop_zero, List.take_zero, List.length_cons, List.length_nil, List.nil_append, List.append_nil, List.cons_append, fillP, PV.cells?, PV.one, PV.cleans, PV.clean, PV.of?, List.all_cons, List.all_nil, List.take_succ_cons, List.drop_succ_cons, Bool.and_self, Int.natCast_nonneg, Int.toNat_natCast, Int.toNat_zero, PV.of?, Tk.ren, tailP, evL_loop, or_true, true_or, Nat.zero_lt_one, Nat.sub_zero, List.getElem?_cons_zero, List.getElem?_cons_succ, List.set_cons_zero, List.set_cons_succ, List.take_length, g1, hg, e13, e10, k13, k10, w1, g2]
            · simp
        · have k13 : (b[i] == 13) = false := by simp [c13]
          by_cases c10 : b[i] = 10
          · have k10 : (b[i] == 10) = true := by rw [c10]; rfl
            rw [c10] at ha
            rcases Nat.eq_zero_or_pos i with rfl | hp
            · have n2 : sta b 0 ≠ 2 := by unfold sta; simp
              rw [au_10 n2] at ha
              refine .inl ⟨_, ?_, ?_, .inl ⟨rfl, ha⟩⟩
              · have o0 : ((0 : Nat) : Int) = 0 := rfl
                rw [o0] at g1
                rw [List.drop_zero] at hg
                simp only [q9_1, q9_0, evL_op, evL_sel, evL_nx, evL_exit, evL_ret, evL_join, evL_block, evL_cond, evK_some, evJ_nx, evJ_rt, evJ_ex, evB_nx, evB_rt, evB_ex, evC2_bool, evS_and, evS_or, evS_tf, evS_ft, ev_t, ev_s, ev_c, evalOp, bin_add, bin_sub, bin_mul, bin_eql, bin_neq, bin_lss, bin_leq, bin_gtr, bin_geq, sbin_eql, sbin_neq, b8, List.map_cons, List.map_nil, PV.rens, PV.ren, if_true, if_false, Bool.false_eq_true, reduceIte, Nat.reduceAdd, Nat.reduceSub, Nat.reduceMul, Nat.reduceEqDiff, Nat.reduceLeDiff, Int.reduceLE, Int.reduceLT, Int.reduceEq, Int.reduceToNat, Int.reduceAdd, Int.reduceSub, Int.reduceNeg, decide_true, decide_false, Bool.not_true, Bool.not_false, Bool.true_and, Bool.false_and, Bool.and_true, Bool.and_false, Bool.or_true, Bool.true_or, Bool.or_false, Bool.false_or, and_self, and_true, true_and, Nat.le_refl, Nat.zero_add, Nat.mul_one, Nat.one_ne_zero, Nat.zero_le, highP, lowP, Option.map_some, Option.map_none, List.drop_zero, List.take_zero, List.length_cons, List.length_nil, List.nil_append, List.append_nil, List.cons_append, fillP, PV.cells?, PV.one, PV.cleans, PV.clean, PV.of?, List.all_cons, List.all_nil, List.take_succ_cons, List.drop_succ_cons, Bool.and_self, Int.natCast_nonneg, Int.toNat_natCast, Int.toNat_zero, PV.of?, Tk.ren, tailP, evL_loop, or_true, true_or, Nat.zero_lt_one, Nat.sub_zero, List.getElem?_cons_zero, List.getElem?_cons_succ, List.set_cons_zero, List.set_cons_succ, List.take_length, o0, g1, hg, e13, e10, k13, k10]
              · simp
            · obtain ⟨j, rfl⟩ : ∃ j, i = j + 1 := ⟨i - 1, by omega⟩
              have hj : j < b.length := by omega
              have hgj := get_b8 hj
              have g2 : ¬ ((j + 1 : Nat) : Int) = 0 := by omega
              have g3 : (j : Int) < b.length := by omega
              have w2 : IntKind.i64.wrap (((j + 1 : Nat) : Int) - 1) = (j : Int) := by rw [wr (by omega) (by omega)]; omega
              have f13 := byte_eqd' b[j] 13 (by decide)
              rw [show ((13 : Nat) : Int) = 13 from rfl, show UInt8.ofNat 13 = 13 from rfl] at f13
              have hsj := sta_succ hj
              by_cases d13 : b[j] = 13
              · have k2 : (b[j] == 13) = true := by rw [d13]; rfl
                rw [if_pos d13] at hsj
                rw [hsj, au_210] at ha
                refine .inr ⟨j + 1 + 1, [sl8 b, .int .i64 ((j + 1 + 1 : Nat) : Int)], [], ?_, rfl, ⟨h, ?_, fun e => ?_⟩, by omega⟩
                · simp only [q9_1, q9_0, evL_op, evL_sel, evL_nx, evL_exit, evL_ret, evL_join, evL_block, evL_cond, evK_some, evJ_nx, evJ_rt, evJ_ex, evB_nx, evB_rt, evB_ex, evC2_bool, evS_and, evS_or, evS_tf, evS_ft, ev_t, ev_s, ev_c, evalOp, bin_add, bin_sub, bin_mul, bin_eql, bin_neq, bin_lss, bin_leq, bin_gtr, bin_geq, sbin_eql, sbin_neq, b8, List.map_cons, List.map_nil, PV.rens, PV.ren, if_true, if_false, Bool.false_eq_true, reduceIte, Nat.reduceAdd, Nat.reduceSub, Nat.reduceMul, Nat.reduceEqDiff, Nat.reduceLeDiff, Int.reduceLE, Int.reduceLT, Int.reduceEq, Int.reduceToNat, Int.reduceAdd, Int.reduceSub, Int.reduceNeg, decide_true, decide_false, Bool.not_true, Bool.not_false, Bool.true_and, Bool.false_and, Bool.and_true, Bool.and_false, Bool.or_true, Bool.true_or, Bool.or_false, Bool.false_or, and_self, and_true, true_and, Nat.le_refl, Nat.zero_add, Nat.mul_one, Nat.one_ne_zero, Nat.zero_le, highP, lowP, Option.map_some, Option.map_none, List.drop_zero, List.take_zero, List.length_cons, List.length_nil, List.nil_append, List.append_nil, List.cons_append, fillP, PV.cells?, PV.one, PV.cleans, PV.clean, PV.of?, List.all_cons, List.all_nil, List.take_succ_cons, List.drop_succ_cons, Bool.and_self, Int.natCast_nonneg, Int.toNat_natCast, Int.toNat_zero, PV.of?, Tk.ren, tailP, evL_loop, or_true, true_or, Nat.zero_lt_one, Nat.sub_zero, List.getElem?_cons_zero, List.getElem?_cons_succ, List.set_cons_zero, List.set_cons_succ, List.take_length, g1, hg, e13, e10, k13, k10, w1, w2, g2, g3, hgj, f13, k2]
                · rw [hs, if_neg c13, if_pos c10]; exact ha
                · rw [hs, if_neg c13, if_pos c10] at e; cases e
              · have k2 : (b[j] == 13) = false := by simp [d13]
                have n2 : sta b (j + 1) ≠ 2 := by rw [hsj, if_neg d13]; split <;> decide
                rw [au_10 n2] at ha
                refine .inl ⟨_, ?_, ?_, .inl ⟨rfl, ha⟩⟩
                · simp only [q9_1, q9_0, evL_op, evL_sel, evL_nx, evL_exit, evL_ret, evL_join, evL_block, evL_cond, evK_some, evJ_nx, evJ_rt, evJ_ex, evB_nx, evB_rt, evB_ex, evC2_bool, evS_and, evS_or, evS_tf, evS_ft, ev_t, ev_s, ev_c, evalOp, bin_add, bin_sub, bin_mul, bin_eql, bin_neq, bin_lss, bin_leq, bin_gtr, bin_geq, sbin_eql, sbin_neq, b8, List.map_cons, List.map_nil, PV.rens, PV.ren, if_true, if_false, Bool.false_eq_true, reduceIte, Nat.reduceAdd, Nat.reduceSub, Nat.reduceMul, Nat.reduceEqDiff, Nat.reduceLeDiff, Int.reduceLE, Int.reduceLT, Int.reduceEq, Int.reduceToNat, Int.reduceAdd, Int.reduceSub, Int.reduceNeg, decide_true, decide_false, Bool.not_true, Bool.not_false, Bool.true_and, Bool.false_and, Bool.and_true, Bool.and_false, Bool.or_true, Bool.true_or, Bool.or_false, Bool.false_or, and_self, and_true, true_and, Nat.le_refl, Nat.zero_add, Nat.mul_one, Nat.one_ne_zero, Nat.zero_le, highP, lowP, Option.map_some, Option.map_none, List.drop_zero, List.take_zero, List.length_cons, List.length_nil, List.nil_append, List.append_nil, List.cons_append, fillP, PV.cells?, PV.one, PV.cleans, PV.clean, PV.of?, List.all_cons, List.all_nil, List.take_succ_cons, List.drop_succ_cons, Bool.and_self, Int.natCast_nonneg, Int.toNat_natCast, Int.toNat_zero, PV.of?, Tk.ren, tailP, evL_loop, or_true, true_or, Nat.zero_lt_one, Nat.sub_zero, List.getElem?_cons_zero, List.getElem?_cons_succ, List.set_cons_zero, List.set_cons_succ, List.take_length, g1, hg, e13, e10, k13, k10, w1, w2, g2, g3, hgj, f13, k2]
                · simp
          · have k10 : (b[i] == 10) = false := by simp [c10]
            have n2 : sta b i ≠ 2 := fun e => by
              obtain ⟨r, hr⟩ := h2 e
              exact c10 (List.cons.inj hr).1
            rw [au_1 n2 c13 c10] at ha
            refine .inr ⟨i + 1, [sl8 b, .int .i64 ((i + 1 : Nat) : Int)], [], ?_, rfl, ⟨h, ?_, fun e => ?_⟩, by omega⟩
            · simp only [q9_1, q9_0, evL_op, evL_sel, evL_nx, evL_exit, evL_ret, evL_join, evL_block, evL_cond, evK_some, evJ_nx, evJ_rt, evJ_ex, evB_nx, evB_rt, evB_ex, evC2_bool, evS_and, evS_or, evS_tf, evS_ft, ev_t, ev_s, ev_c, evalOp, bin_add, bin_sub, bin_mul, bin_eql, bin_neq, bin_lss, bin_leq, bin_gtr, bin_geq, sbin_eql, sbin_neq, b8, List.map_cons, List.map_nil, PV.rens, PV.ren, if_true, if_false, Bool.false_eq_true, reduceIte, Nat.reduceAdd, Nat.reduceSub, Nat.reduceMul, Nat.reduceEqDiff, Nat.reduceLeDiff, Int.reduceLE, Int.reduceLT, Int.reduceEq, Int.reduceToNat, Int.reduceAdd, Int.reduceSub, Int.reduceNeg, decide_true, decide_false, Bool.not_true, Bool.not_false, Bool.true_and, Bool.false_and, Bool.and_true, Bool.and_false, Bool.or_true, Bool.true_or, Bool.or_false, Bool.false_or, and_self, and_true, true_and, Nat.le_refl, Nat.zero_add, Nat.mul_one, Nat.one_ne_zero, Nat.zero_le, highP, lowP, Option.map_some, Option.map_none, List.drop_zero, List.take_zero, List.length_cons, List.length_nil, List.nil_append, List.append_nil, List.cons_append, fillP, PV.cells?, PV.one, PV.cleans, PV.clean, PV.of?, List.all_cons, List.all_nil, List.take_succ_cons, List.drop_succ_cons, Bool.and_self, Int.natCast_nonneg, Int.toNat_natCast, Int.toNat_zero, PV.of?, Tk.ren, tailP, evL_loop, or_true, true_or, Nat.zero_lt_one, Nat.sub_zero, List.getElem?_cons_zero, List.getElem?_cons_succ, List.set_cons_zero, List.set_cons_succ, List.take_length, g1, hg, e13, e10, k13, k10, w1]
            · rw [hs, if_neg c13, if_neg c10]; exact ha
            · rw [hs, if_neg c13, if_neg c10] at e; cases e
      · have g1 : ¬ (i : Int) < b.length := by omega
        obtain rfl : i = b.length := by omega
        refine .inl ⟨_, ?_, ?_, .inr ⟨rfl, ?_, fun e => ?_⟩⟩
        · simp only [q9_1, evL_op, evL_sel, evL_nx, evL_exit, evL_ret, evL_join, evL_block, evL_cond, evK_some, evJ_nx, evJ_rt, evJ_ex, evB_nx, evB_rt, evB_ex, evC2_bool, evS_and, evS_or, evS_tf, evS_ft, ev_t, ev_s, ev_c, evalOp, bin_add, bin_sub, bin_mul, bin_eql, bin_neq, bin_lss, bin_leq, bin_gtr, bin_geq, sbin_eql, sbin_neq, b8, List.map_cons, List.map_nil, PV.rens, PV.ren, if_true, if_false, Bool.false_eq_true, reduceIte, Nat.reduceAdd, Nat.reduceSub, Nat.reduceMul, Nat.reduceEqDiff, Nat.reduceLeDiff, Int.reduceLE, Int.reduceLT, Int.reduceEq, Int.reduceToNat, Int.reduceAdd, Int.reduceSub, Int.reduceNeg, decide_true, decide_false, Bool.not_true, Bool.not_false, Bool.true_and, Bool.false_and, Bool.and_true, Bool.and_false, Bool.or_true, Bool.true_or, Bool.or_false, Bool.false_or, and_self, and_true, true_and, Nat.le_refl, Nat.zero_add, Nat.mul_one, Nat.one_ne_zero, Nat.zero_le, highP, lowP, Option.map_some, Option.map_none, List.drop_zero, List.take_zero, List.length_cons, List.length_nil, List.nil_append, List.append_nil, List.cons_append, fillP, PV.cells?, PV.one, PV.cleans, PV.clean, PV.of?, List.all_cons, List.all_nil, List.take_succ_cons, List.drop_succ_cons, Bool.and_self, Int.natCast_nonneg, Int.toNat_natCast, Int.toNat_zero, PV.of?, Tk.ren, tailP, evL_loop, or_true, true_or, Nat.zero_lt_one, Nat.sub_zero, List.getElem?_cons_zero, List.getElem?_cons_succ, List.set_cons_zero, List.set_cons_succ, List.take_length, g1]
        · simp
        · rw [ha, List.drop_of_length_le (Nat.le_refl _)]; rfl
        · obtain ⟨r, hr⟩ := h2 e
          rw [List.drop_of_length_le (Nat.le_refl _)] at hr
          cases hr)
    (b.length + 2) 0 [sl8 b, .int .i64 (0 : Nat)] [] rfl ⟨Nat.zero_le _, rfl, fun e => by unfold sta at e; simp at e⟩ (by omega)
  rw [show ((0 : Nat) : Int) = 0 from rfl] at lp
  simp only [q9, evL_op, evL_sel, evL_nx, evL_exit, evL_ret, evL_join, evL_block, evL_cond, evK_some, evJ_nx, evJ_rt, evJ_ex, evB_nx, evB_rt, evB_ex, evC2_bool, evS_and, evS_or, evS_tf, evS_ft, ev_t, ev_s, ev_c, evalOp, bin_add, bin_sub, bin_mul, bin_eql, bin_neq, bin_lss, bin_leq, bin_gtr, bin_geq, sbin_eql, sbin_neq, b8, List.map_cons, List.map_nil, PV.rens, PV.ren, if_true, if_false, Bool.false_eq_true, reduceIte, Nat.reduceAdd, Nat.reduceSub, Nat.reduceMul, Nat.reduceEqDiff, Nat.reduceLeDiff, Int.reduceLE, Int.reduceLT, Int.reduceEq, Int.reduceToNat, Int.reduceAdd, Int.reduceSub, Int.reduceNeg, decide_true, decide_false, Bool.not_true, Bool.not_false, Bool.true_and, Bool.false_and, Bool.and_true, Bool.and_false, Bool.or_true, Bool.true_or, Bool.or_false, Bool.false_or, and_self, and_true, true_and, Nat.le_refl, Nat.zero_add, Nat.mul_one, Nat.one_ne_zero, Nat.zero_le, highP, lowP, Option.map_some, Option.map_none, List.drop_zero, List.take_zero, List.length_cons, List.length_nil, List.nil_append, List.append_nil, List.cons_append, fillP, PV.cells?, PV.one, PV.cleans, PV.clean, PV.of?, List.all_cons, List.all_nil, List.take_succ_cons, List.drop_succ_cons, Bool.and_self, Int.natCast_nonneg, Int.toNat_natCast, Int.toNat_zero, PV.of?, Tk.ren, tailP, evL_loop, or_true, true_or, Nat.zero_lt_one, Nat.sub_zero, List.getElem?_cons_zero, List.getElem?_cons_succ, List.set_cons_zero, List.set_cons_succ, List.take_length]
  rw [lp]
  rcases hr with ⟨rfl, hr⟩ | ⟨rfl, hr, hr2⟩
  · rw [hr]
    simp only [q9_2, evL_op, evL_sel, evL_nx, evL_exit, evL_ret, evL_join, evL_block, evL_cond, evK_some, evJ_nx, evJ_rt, evJ_ex, evB_nx, evB_rt, evB_ex, evC2_bool, evS_and, evS_or, evS_tf, evS_ft, ev_t, ev_s, ev_c, evalOp, bin_add, bin_sub, bin_mul, bin_eql, bin_neq, bin_lss, bin_leq, bin_gtr, bin_geq, sbin_eql, sbin_neq, b8, List.map_cons, List.map_nil, PV.rens, PV.ren, if_true, if_false, Bool.false_eq_true, reduceIte, Nat.reduceAdd, Nat.reduceSub, Nat.reduceMul, Nat.reduceEqDiff, Nat.reduceLeDiff, Int.reduceLE, Int.reduceLT, Int.reduceEq, Int.reduceToNat, Int.reduceAdd, Int.reduceSub, Int.reduceNeg, decide_true, decide_false, Bool.not_true, Bool.not_false, Bool.true_and, Bool.false_and, Bool.and_true, Bool.and_false, Bool.or_true, Bool.true_or, Bool.or_false, Bool.false_or, and_self, and_true, true_and, Nat.le_refl, Nat.zero_add, Nat.mul_one, Nat.one_ne_zero, Nat.zero_le, highP, lowP, Option.map_some, Option.map_none, List.drop_zero, List.take_zero, List.length_cons, List.length_nil, List.nil_append, List.append_nil, List.cons_append, fillP, PV.cells?, PV.one, PV.cleans, PV.clean, PV.of?, List.all_cons, List.all_nil, List.take_succ_cons, List.drop_succ_cons, Bool.and_self, Int.natCast_nonneg, Int.toNat_natCast, Int.toNat_zero, PV.of?, Tk.ren, tailP, evL_loop, or_true, true_or, Nat.zero_lt_one, Nat.sub_zero, List.getElem?_cons_zero, List.getElem?_cons_succ, List.set_cons_zero, List.set_cons_succ, List.take_length]
  · rw [hr]
    rcases Nat.eq_zero_or_pos b.length with h0 | hp
    · have o0 : ((0 : Nat) : Int) = 0 := rfl
      obtain rfl : b = [] := List.eq_nil_of_length_eq_zero h0
      simp only [q9_2, evL_op, evL_sel, evL_nx, evL_exit, evL_ret, evL_join, evL_block, evL_cond, evK_some, evJ_nx, evJ_rt, evJ_ex, evB_nx, evB_rt, evB_ex, evC2_bool, evS_and, evS_or, evS_tf, evS_ft, ev_t, ev_s, ev_c, evalOp, bin_add, bin_sub, bin_mul, bin_eql, bin_neq, bin_lss, bin_leq, bin_gtr, bin_geq, sbin_eql, sbin_neq, b8, List.map_cons, List.map_nil, PV.rens, PV.ren, if_true, if_false, Bool.false_eq_true, reduceIte, Nat.reduceAdd, Nat.reduceSub, Nat.reduceMul, Nat.reduceEqDiff, Nat.reduceLeDiff, Int.reduceLE, Int.reduceLT, Int.reduceEq, Int.reduceToNat, Int.reduceAdd, Int.reduceSub, Int.reduceNeg, decide_true, decide_false, Bool.not_true, Bool.not_false, Bool.true_and, Bool.false_and, Bool.and_true, Bool.and_false, Bool.or_true, Bool.true_or, Bool.or_false, Bool.false_or, and_self, and_true, true_and, Nat.le_refl, Nat.zero_add, Nat.mul_one, Nat.one_ne_zero, Nat.zero_le, highP, lowP, Option.map_some, Option.map_none, List.drop_zero, List.take_zero, List.length_cons, List.length_nil, List.nil_append, List.append_nil, List.cons_append, fillP, PV.cells?, PV.one, PV.cleans, PV.clean, PV.of?, List.all_cons, List.all_nil, List.take_succ_cons, List.drop_succ_cons, Bool.and_self, Int.natCast_nonneg, Int.toNat_natCast, Int.toNat_zero, PV.of?, Tk.ren, tailP, evL_loop, or_true, true_or, Nat.zero_lt_one, Nat.sub_zero, List.getElem?_cons_zero, List.getElem?_cons_succ, List.set_cons_zero, List.set_cons_succ, List.take_length, o0]
      rfl
    · obtain ⟨j, hj⟩ : ∃ j, b.length = j + 1 := ⟨b.length - 1, by omega⟩
      have hjl : j < b.length := by omega
      have hs := sta_succ hjl
      rw [← hj] at hs
      have hg := get_b8 hjl
      have g1 : ¬ (b.length : Int) = 0 := by omega
      have g2 : IntKind.i64.wrap ((b.length : Int) - 1) = (j : Int) := by rw [wr (by omega) (by omega)]; omega
      have g3 : (j : Int) < b.length := by omega
      have e10 := byte_eqd' b[j] 10 (by decide)
      rw [show ((10 : Nat) : Int) = 10 from rfl, show UInt8.ofNat 10 = 10 from rfl] at e10
      have hf : (sta b b.length == 0) = (b[j] == 10) := by
        rw [hs] at hr2 ⊢
        by_cases c13 : b[j] = 13
        · rw [if_pos c13] at hr2; exact absurd rfl hr2
        · rw [if_neg c13]
          by_cases c10 : b[j] = 10
          · rw [if_pos c10, c10]; rfl
          · rw [if_neg c10]; simp [c10]
      rw [hf]
      simp only [q9_2, evL_op, evL_sel, evL_nx, evL_exit, evL_ret, evL_join, evL_block, evL_cond, evK_some, evJ_nx, evJ_rt, evJ_ex, evB_nx, evB_rt, evB_ex, evC2_bool, evS_and, evS_or, evS_tf, evS_ft, ev_t, ev_s, ev_c, evalOp, bin_add, bin_sub, bin_mul, bin_eql, bin_neq, bin_lss, bin_leq, bin_gtr, bin_geq, sbin_eql, sbin_neq, b8, List.map_cons, List.map_nil, PV.rens, PV.ren, if_true, if_false, Bool.false_eq_true, reduceIte, Nat.reduceAdd, Nat.reduceSub, Nat.reduceMul, Nat.reduceEqDiff, Nat.reduceLeDiff, Int.reduceLE, Int.reduceLT, Int.reduceEq, Int.reduceToNat, Int.reduceAdd, Int.reduceSub, Int.reduceNeg, decide_true, decide_false, Bool.not_true, Bool.not_false, Bool.true_and, Bool.false_and, Bool.and_true, Bool.and_false, Bool.or_true, Bool.true_or, Bool.or_false, Bool.false_or, and_self, and_true, true_and, Nat.le_refl, Nat.zero_add, Nat.mul_one, Nat.one_ne_zero, Nat.zero_le, highP, lowP, Option.map_some, Option.map_none, List.drop_zero, List.take_zero, List.length_cons, List.length_nil, List.nil_append, List.append_nil, List.cons_append, fillP, PV.cells?, PV.one, PV.cleans, PV.clean, PV.of?, List.all_cons, List.all_nil, List.take_succ_cons, List.drop_succ_cons, Bool.and_self, Int.natCast_nonneg, Int.toNat_natCast, Int.toNat_zero, PV.of?, Tk.ren, tailP, evL_loop, or_true, true_or, Nat.zero_lt_one, Nat.sub_zero, List.getElem?_cons_zero, List.getElem?_cons_succ, List.set_cons_zero, List.set_cons_succ, List.take_length, g1, g2, g3, hg, e10]
end Go.Proofs.YtmdnloajpjfbmaaDoor.Tab
