/- Lines of a text: the law of it, and what dots.Lines and the document's answer tell. -/
import Derived.Test.YtmajbgmjlggcbaaDoorBase
namespace Go.Proofs.YtmajbgmjlggcbaaDoor.Tab
set_option linter.all false
open Go Go.RowKit Go.Proofs.YtmajbgmjlggcbaaDoor.Ev
/-! ### the law -/
abbrev nl : List UInt8 := [13, 10]
abbrev nlP : PV := .sl .no 1 2 [.int .u8 13, .int .u8 10]
def NC (l : List UInt8) : Prop := ∀ r, Lib.index (l ++ 13 :: 10 :: r) nl = l.length
def Cl (l : List UInt8) : Prop := ∀ x ∈ l, x ≠ 13 ∧ x ≠ 10
theorem Cl.nil : Cl [] := fun _ h => by cases h
theorem Cl.tail {x : UInt8} {l : List UInt8} (h : Cl (x :: l)) : Cl l := fun y hy => h y (List.mem_cons_of_mem _ hy)
theorem Cl.head {x : UInt8} {l : List UInt8} (h : Cl (x :: l)) : x ≠ 13 ∧ x ≠ 10 := h x List.mem_cons_self
theorem Cl.app {a b : List UInt8} (h : Cl a) (k : Cl b) : Cl (a ++ b) := fun x hx => (List.mem_append.1 hx).elim (h x) (k x)
theorem idx_cons (b : UInt8) (l s : List UInt8) : Lib.index (b :: l) s = if s.isPrefixOf (b :: l) = true then 0 else if Lib.index l s = -1 then -1 else Lib.index l s + 1 := by
  conv => lhs; unfold Lib.index
  by_cases h : s.isPrefixOf (b :: l) = true
  · rw [if_pos h, if_pos h]
  · rw [if_neg h, if_neg h]
    by_cases h2 : Lib.index l s = -1
    · rw [if_pos (by simpa using h2), if_pos h2]
    · rw [if_neg (by simpa using h2), if_neg h2]
theorem pre_nl (b : UInt8) (l : List UInt8) : nl.isPrefixOf (b :: l) = (b == 13 && l.head? == some 10) := by
  cases l with
  | nil => simp [List.isPrefixOf]
  | cons c r =>
    simp only [nl, List.isPrefixOf, List.head?_cons, Bool.and_true]
    rw [show ((13 : UInt8) == b) = (b == 13) from BEq.comm, show ((10 : UInt8) == c) = (c == 10) from BEq.comm]
    congr 1
theorem Cl.nc : ∀ {l : List UInt8}, Cl l → NC l
  | [], _, r => by
    show Lib.index (13 :: 10 :: r) nl = 0
    rw [idx_cons, pre_nl, if_pos (by rfl)]
  | x :: l, h, r => by
    have ih := Cl.nc h.tail r
    show Lib.index (x :: (l ++ 13 :: 10 :: r)) nl = _
    rw [idx_cons, pre_nl, if_neg (by simp [h.head.1]), ih, if_neg (by omega), List.length_cons]
    omega
theorem idx_split : ∀ b : List UInt8, Lib.index b nl = -1 ∨ ∃ a r, b = a ++ 13 :: 10 :: r ∧ Lib.index b nl = a.length ∧ NC a
  | [] => .inl rfl
  | x :: l => by
    rw [idx_cons]
    by_cases h : nl.isPrefixOf (x :: l) = true
    · rw [if_pos h]
      rw [pre_nl] at h
      simp only [Bool.and_eq_true, beq_iff_eq] at h
      cases l with
      | nil => simp at h
      | cons y r =>
        simp at h
        obtain ⟨rfl, rfl⟩ := h
        exact .inr ⟨[], r, rfl, rfl, Cl.nc Cl.nil⟩
    · rw [if_neg h]
      rcases idx_split l with h1 | ⟨a, r, h1, h2, h3⟩
      · rw [h1]; exact .inl rfl
      · rw [h2, if_neg (by omega)]
        refine .inr ⟨x :: a, r, by rw [h1]; rfl, by simp, fun r' => ?_⟩
        show Lib.index (x :: (a ++ 13 :: 10 :: r')) nl = _
        have hx : ¬ nl.isPrefixOf (x :: (a ++ 13 :: 10 :: r')) = true := by
          rw [pre_nl] at h ⊢
          subst h1
          cases a with
          | nil => simpa using h
          | cons y a => simpa using h
        rw [idx_cons, if_neg hx, h3 r', if_neg (by omega), List.length_cons]
        omega
def linesN : Nat → List UInt8 → List (List UInt8)
  | 0, _ => []
  | k + 1, b => if Lib.index b nl < 0 then [] else b.take (Lib.index b nl).toNat :: linesN k (b.drop ((Lib.index b nl).toNat + 2))
/-- What stands ahead of each line's end. -/
def lines (b : List UInt8) : List (List UInt8) := linesN (b.length + 1) b
theorem linesN_no {b : List UInt8} (h : Lib.index b nl = -1) : ∀ k, linesN k b = []
  | 0 => rfl
  | k + 1 => by unfold linesN; rw [if_pos (by omega)]
theorem linesN_cons {a : List UInt8} (h : NC a) (r : List UInt8) (k : Nat) : linesN (k + 1) (a ++ 13 :: 10 :: r) = a :: linesN k r := by
  conv => lhs; unfold linesN
  rw [h r, if_neg (by omega), Int.toNat_natCast, List.take_left, List.drop_append, List.drop_of_length_le (by omega)]
  simp
theorem linesN_le : ∀ (n : Nat) (b : List UInt8), b.length ≤ n → ∀ k, b.length ≤ k → linesN (k + 1) b = linesN (b.length + 1) b
  | 0, b, hn, k, hk => by
    obtain rfl : b = [] := List.eq_nil_of_length_eq_zero (by omega)
    rw [linesN_no rfl, linesN_no rfl]
  | n + 1, b, hn, k, hk => by
    rcases idx_split b with h | ⟨a, r, rfl, _, h⟩
    · rw [linesN_no h, linesN_no h]
    · simp only [List.length_append, List.length_cons] at hn hk ⊢
      rw [linesN_cons h, linesN_cons h]
      obtain ⟨k, rfl⟩ : ∃ k', k = k' + 1 := ⟨k - 1, by omega⟩
      rw [linesN_le n r (by omega) k (by omega), show a.length + (r.length + 1 + 1) = (a.length + r.length + 1) + 1 by omega, linesN_le n r (by omega) (a.length + r.length + 1) (by omega)]
theorem lines_no {b : List UInt8} (h : Lib.index b nl = -1) : lines b = [] := linesN_no h _
theorem lines_cons {a : List UInt8} (h : NC a) (r : List UInt8) : lines (a ++ 13 :: 10 :: r) = a :: lines r := by
  unfold lines
  rw [linesN_cons h]
  congr 1
  rw [List.length_append, List.length_cons, List.length_cons, show a.length + (r.length + 1 + 1) = (a.length + r.length + 1) + 1 by omega]
  exact linesN_le r.length r (Nat.le_refl _) _ (by omega)
/-- Lines put together. -/
def join (ls : List (List UInt8)) : List UInt8 := (ls.map (· ++ [13, 10])).flatten
theorem join_nil : join [] = [] := rfl
theorem join_cons (l : List UInt8) (ls : List (List UInt8)) : join (l :: ls) = l ++ 13 :: 10 :: join ls := by simp [join]
theorem join_app (a b : List (List UInt8)) : join (a ++ b) = join a ++ join b := by simp [join]
theorem join_one (l : List UInt8) : join [l] = l ++ [13, 10] := by simp [join]
theorem lines_join_app (t : List UInt8) : ∀ ls : List (List UInt8), (∀ l ∈ ls, NC l) → lines (join ls ++ t) = ls ++ lines t
  | [], _ => rfl
  | l :: ls, h => by
    rw [join_cons, List.append_assoc]
    show lines (l ++ 13 :: 10 :: (join ls ++ t)) = _
    rw [lines_cons (h l List.mem_cons_self), lines_join_app t ls (fun x hx => h x (List.mem_cons_of_mem _ hx))]
    rfl
theorem lines_join {ls : List (List UInt8)} (h : ∀ l ∈ ls, Cl l) : lines (join ls) = ls := by
  have := lines_join_app [] ls (fun l hl => (h l hl).nc)
  rw [List.append_nil] at this
  rw [this, lines_no rfl, List.append_nil]
theorem join_inj {a b : List (List UInt8)} (ha : ∀ l ∈ a, Cl l) (hb : ∀ l ∈ b, Cl l) (h : join a = join b) : a = b := by
  rw [← lines_join ha, h, lines_join hb]
theorem lines_len : ∀ (n : Nat) (b : List UInt8), b.length ≤ n → (lines b).length ≤ b.length ∧ ∀ l ∈ lines b, l.length ≤ b.length
  | 0, b, hn => by
    obtain rfl : b = [] := List.eq_nil_of_length_eq_zero (by omega)
    rw [lines_no rfl]
    exact ⟨Nat.zero_le _, fun l h => by cases h⟩
  | n + 1, b, hn => by
    rcases idx_split b with h | ⟨a, r, rfl, _, h⟩
    · rw [lines_no h]
      exact ⟨Nat.zero_le _, fun l h => by cases h⟩
    · rw [lines_cons h]
      simp only [List.length_append, List.length_cons] at hn ⊢
      obtain ⟨h1, h2⟩ := lines_len n r (by omega)
      refine ⟨by omega, fun l hl => ?_⟩
      rcases List.mem_cons.1 hl with rfl | hl
      · omega
      · have := h2 l hl; omega
/-! ### what the functions tell -/
theorem bytes8_map (l : List UInt8) : bytes8 (l.map b8) = some l := bytes8_b8 l
theorem T31 (l s : List UInt8) (hl : l.length < 4294967281) (h2 : 2 ≤ s.length) (h3 : s.length ≤ 1000000) (t t' : Tk) (z z' : Nat) : T 31 [.sl t z l.length (l.map b8), .sl t' z' s.length (s.map b8)] [] = some (.int .i64 (Lib.index l s), []) := by
  refine evT_ov (φ := ovBI) rfl ?_
  unfold ovBI
  simp only [bytes8_map]
  rw [if_pos ⟨trivial, trivial, hl, h2, h3⟩]
theorem T36 (l : List UInt8) (c : UInt8) (t : Tk) (z : Nat) : T 36 [.sl t z l.length (l.map b8), .int .u8 c.toNat] [] = some (.int .i64 (idxB l c), []) := by
  refine evT_ov (φ := ovBIB) rfl ?_
  unfold ovBIB
  simp only [bytes8_map]
  rw [if_pos trivial, byte_back]
theorem cut_yes (a r : List UInt8) (h : NC a) (hl : (a ++ 13 :: 10 :: r).length < 4294967281) : T 22 [sl8 (a ++ 13 :: 10 :: r), nlP] [] = some (.tup [sl8 a, sl8 r, .bool true], []) := by
  refine evT_of (k := 0) (F := l22) (H' := []) (e := [sl8 a, sl8 r, .bool true]) (l := [sl8 a, sl8 r, .bool true]) rfl rfl rfl ?_ rfl rfl
  show evL T 0 q22 _ _ = _
  have c1 : T 31 [sl8 (a ++ 13 :: 10 :: r), .sl .no 1 2 [.int .u8 13, .int .u8 10]] [] = _ := T31 (a ++ 13 :: 10 :: r) nl hl (by decide) (by decide) .no .no 1 1
  rw [h r] at c1
  have h1 : (0 : Int) ≤ a.length := by omega
  have hll : (a ++ 13 :: 10 :: r).length = a.length + (r.length + 2) := by simp
  have h2 : (a.length : Int) ≤ (a ++ 13 :: 10 :: r).length := by omega
  have w1 : IntKind.i64.wrap ((a.length : Int) + ((2 : Nat) : Int)) = ((a.length + 2 : Nat) : Int) := by rw [wr (by omega) (by omega)]; omega
  have h3 : ((a.length + 2 : Nat) : Int) ≤ (a ++ 13 :: 10 :: r).length := by omega
  have h4 : a.length + 2 ≤ (a ++ 13 :: 10 :: r).length := by omega
  have e1 : ((a ++ 13 :: 10 :: r).map b8).take a.length = a.map b8 := by rw [List.map_append, List.take_left' (by simp)]
  have e2 : ((a ++ 13 :: 10 :: r).map b8).drop (a.length + 2) = r.map b8 := by
    rw [← List.map_drop, List.drop_append, List.drop_of_length_le (by omega)]; simp
  have e3 : (a ++ 13 :: 10 :: r).length - (a.length + 2) = r.length := by omega
  have e4 : ((a ++ 13 :: 10 :: r).map b8).take (a ++ 13 :: 10 :: r).length = (a ++ 13 :: 10 :: r).map b8 := List.take_of_length_le (by simp)
  generalize (a ++ 13 :: 10 :: r) = b at *
  simp only [q22, evL_op, evL_sel, evL_nx, evL_exit, evL_ret, evL_join, evL_block, evL_cond, evK_some, evJ_nx, evJ_rt, evJ_ex, evB_nx, evB_rt, evB_ex, evC2_bool, evS_and, evS_or, evS_tf, evS_ft, ev_t, ev_s, ev_c, evalOp, bin_add, bin_sub, bin_mul, bin_eql, bin_neq, bin_lss, bin_leq, bin_gtr, bin_geq, sbin_eql, sbin_neq, b8, List.map_cons, List.map_nil, PV.rens, PV.ren, if_true, if_false, Bool.false_eq_true, reduceIte, Nat.reduceAdd, Nat.reduceSub, Nat.reduceMul, Nat.reduceEqDiff, Nat.reduceLeDiff, Int.reduceLE, Int.reduceLT, Int.reduceEq, Int.reduceToNat, Int.reduceAdd, Int.reduceSub, Int.reduceNeg, decide_true, decide_false, Bool.not_true, Bool.not_false, Bool.true_and, Bool.false_and, Bool.and_true, Bool.and_false, Bool.or_true, Bool.true_or, Bool.or_false, Bool.false_or, and_self, and_true, true_and, Nat.le_refl, Nat.zero_add, Nat.mul_one, Nat.one_ne_zero, Nat.zero_le, highP, lowP, Option.map_some, Option.map_none, List.drop_zero, List.take_zero, List.length_cons, List.length_nil, List.nil_append, List.append_nil, List.cons_append, fillP, PV.cells?, PV.one, PV.cleans, PV.clean, PV.of?, List.all_cons, List.all_nil, List.take_succ_cons, List.drop_succ_cons, Bool.and_self, Int.natCast_nonneg, Int.toNat_natCast, Int.toNat_zero, PV.rens, PV.ren, Tk.ren, c1, h1, h2, w1, h3, h4, e1, e2, e3, e4, Nat.sub_zero, or_true, Nat.zero_lt_one]
theorem cut_no (b : List UInt8) (h : Lib.index b nl = -1) (hl : b.length < 4294967281) : T 22 [sl8 b, nlP] [] = some (.tup [sl8 b, .sl .nil 0 0 [], .bool false], []) := by
  refine evT_of (k := 0) (F := l22) (H' := []) (e := [sl8 b, .sl .nil 0 0 [], .bool false]) (l := [sl8 b, .sl .nil 0 0 [], .bool false]) rfl rfl rfl ?_ rfl rfl
  show evL T 0 q22 _ _ = _
  have c1 : T 31 [sl8 b, .sl .no 1 2 [.int .u8 13, .int .u8 10]] [] = _ := T31 b nl hl (by decide) (by decide) .no .no 1 1
  rw [h] at c1
  have h1 : ¬ (0 : Int) ≤ -1 := by decide
  simp only [q22, evL_op, evL_sel, evL_nx, evL_exit, evL_ret, evL_join, evL_block, evL_cond, evK_some, evJ_nx, evJ_rt, evJ_ex, evB_nx, evB_rt, evB_ex, evC2_bool, evS_and, evS_or, evS_tf, evS_ft, ev_t, ev_s, ev_c, evalOp, bin_add, bin_sub, bin_mul, bin_eql, bin_neq, bin_lss, bin_leq, bin_gtr, bin_geq, sbin_eql, sbin_neq, b8, List.map_cons, List.map_nil, PV.rens, PV.ren, if_true, if_false, Bool.false_eq_true, reduceIte, Nat.reduceAdd, Nat.reduceSub, Nat.reduceMul, Nat.reduceEqDiff, Nat.reduceLeDiff, Int.reduceLE, Int.reduceLT, Int.reduceEq, Int.reduceToNat, Int.reduceAdd, Int.reduceSub, Int.reduceNeg, decide_true, decide_false, Bool.not_true, Bool.not_false, Bool.true_and, Bool.false_and, Bool.and_true, Bool.and_false, Bool.or_true, Bool.true_or, Bool.or_false, Bool.false_or, and_self, and_true, true_and, Nat.le_refl, Nat.zero_add, Nat.mul_one, Nat.one_ne_zero, Nat.zero_le, highP, lowP, Option.map_some, Option.map_none, List.drop_zero, List.take_zero, List.length_cons, List.length_nil, List.nil_append, List.append_nil, List.cons_append, fillP, PV.cells?, PV.one, PV.cleans, PV.clean, PV.of?, List.all_cons, List.all_nil, List.take_succ_cons, List.drop_succ_cons, Bool.and_self, Int.natCast_nonneg, Int.toNat_natCast, Int.toNat_zero, PV.rens, PV.ren, Tk.ren, c1, h1]
def accL (t : Tk) (D : List (List UInt8)) : PV := .sl t (if D = [] then 0 else 1) D.length (D.map fun l => sl8 l)
theorem accL_snoc (D : List (List UInt8)) (l : List UInt8) (t : Tk) : accL t (D ++ [l]) = .sl t 1 (D.length + 1) (D.map (fun l => sl8 l) ++ [sl8 l]) := by
  unfold accL
  rw [if_neg (by simp)]
  simp
end Go.Proofs.YtmajbgmjlggcbaaDoor.Tab
