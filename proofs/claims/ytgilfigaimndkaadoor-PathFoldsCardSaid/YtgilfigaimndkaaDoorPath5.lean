/- Chapter 11: the document's answer's domains. -/
import Derived.Test.YtgilfigaimndkaaDoorPath4
namespace Go.Proofs.YtgilfigaimndkaaDoor.Tab
set_option linter.all false
open Go Go.RowKit Go.Proofs.YtgilfigaimndkaaDoor.Ev
def rd : List UInt8 → List UInt8 → Bool
  | cur, [] => label cur
  | cur, c :: r => if c = 46 then label cur && rd [] r else labelC c && rd (cur ++ [c]) r
theorem label_bad {a b : List UInt8} {c : UInt8} (h : labelC c = false) : label (a ++ c :: b) = false := by
  unfold label
  have : (a ++ c :: b).all labelC = false := by simp [h]
  rw [this]; simp
theorem rd_split : ∀ (s cur y : List UInt8) (r : List (List UInt8)), splitBy 46 s = y :: r → rd cur s = (label (cur ++ y) && r.all label)
  | [], cur, y, r, h => by simp [splitBy] at h; obtain ⟨rfl, rfl⟩ := h; simp [rd]
  | c :: t, cur, y, r, h => by
    by_cases hc : c = 46
    · subst hc
      have e : splitBy 46 (46 :: t) = [] :: splitBy 46 t := by conv => lhs; unfold splitBy
                                                               rw [if_pos rfl]
      rw [e] at h
      obtain ⟨rfl, rfl⟩ := List.cons.inj h
      unfold rd
      rw [if_pos rfl]
      cases h2 : splitBy 46 t with
      | nil => exact absurd h2 (split_ne t)
      | cons y r => rw [rd_split t [] y r h2, List.append_nil, List.all_cons, List.nil_append]
    · obtain ⟨y', r', h1, h2⟩ := split_cons c hc t
      rw [h2] at h
      obtain ⟨rfl, rfl⟩ := List.cons.inj h
      unfold rd
      rw [if_neg hc, rd_split t (cur ++ [c]) y' _ h1, List.append_assoc]
      show (labelC c && (label (cur ++ c :: y') && _)) = (label (cur ++ c :: y') && _)
      cases hl : labelC c with
      | true => simp
      | false => rw [label_bad hl]; simp
theorem parts_rd (s : List UInt8) : parts s 255 label = (decide ((s.length : Int) ≤ 255) && rd [] s) := by
  unfold parts
  cases h : splitBy 46 s with
  | nil => exact absurd h (split_ne s)
  | cons y r => rw [rd_split s [] y r h, List.all_cons, List.nil_append]
/-- What is asked at a label's end. -/
theorem label_end {cur : List UInt8} (h : cur.all labelC = true) : label cur = (decide ((1 : Int) ≤ cur.length) && decide ((cur.length : Int) ≤ 63) && !(cur.head? == some 45) && !(cur.getLast? == some 45)) := by
  unfold label
  rw [h]
  cases cur with
  | nil => rfl
  | cons a r =>
    have h1 : decide ((1 : Int) ≤ ((a :: r).length : Nat)) = true := by simp; omega
    have h2 : (!decide (a :: r = [])) = true := by simp
    rw [h1, h2]
    simp
theorem labelC_parts (c : UInt8) : (!letterC c && !digitC c && !(c == 45)) = !labelC c := by
  unfold labelC
  rw [plain_eq]
  cases letterC c <;> cases digitC c <;> cases (c == 45) <;> rfl
/-- A sign within a label. -/
theorem body15_in (k0 : Nat) (s : List UInt8) (hs : s.length ≤ 9000000000000000000) (b : Int) (i : Nat) (c : UInt8) (hc : s[i]? = some c) (h46 : c ≠ 46) :
    evL T k0 q15_1 [.str s, .int .i64 b, .int .i64 i] [] = if labelC c = true then some (.nx, [.str s, .int .i64 b, .int .i64 (i + 1 : Nat)], []) else some (.rt, [.bool false], []) := by
  have hi : i < s.length := (List.getElem?_eq_some_iff.1 hc).1
  have h1 : (i : Int) < s.length := by omega
  have h2 : (i : Int) ≤ s.length := by omega
  have hw : IntKind.i64.wrap ((i : Int) + 1) = ((i + 1 : Nat) : Int) := by rw [IntWalk.i64_in _ (by omega)]; rfl
  have e46 : decide ((c.toNat : Int) = 46) = (c == 46) := byte_eqn c 46 (by omega)
  have e45 : decide ((c.toNat : Int) = 45) = (c == 45) := byte_eqn c 45 (by omega)
  have ec : (c == 46) = false := by simpa using h46
  have h35 := T35 c
  have h36 := T36 c
  simp only [q15_1, q15_0, evL_op, evL_sel, evL_nx, evL_exit, evL_ret, evL_join, evL_block, evL_cond, evK_some, evJ_nx, evJ_rt, evJ_ex, evB_nx, evB_rt, evB_ex, evC2_bool, evS_and, evS_or, evS_tf, evS_ft, ev_t, ev_s, ev_c, evalOp, bin_add, bin_sub, bin_mul, bin_eql, bin_neq, bin_lss, bin_leq, bin_gtr, bin_geq, sbin_eql, sbin_neq, b8, List.map_cons, List.map_nil, PV.rens, PV.ren, if_true, if_false, Bool.false_eq_true, reduceIte, h1, h2, decide_true, Int.natCast_nonneg, Int.toNat_natCast, hc, e46, e45, ec, Bool.not_false, h35, h36, Bool.true_and, labelC_parts]
  cases labelC c with
  | true => simp only [evL_op, evL_sel, evL_nx, evL_exit, evL_ret, evL_join, evL_block, evL_cond, evK_some, evJ_nx, evJ_rt, evJ_ex, evB_nx, evB_rt, evB_ex, evC2_bool, evS_and, evS_or, evS_tf, evS_ft, ev_t, ev_s, ev_c, evalOp, bin_add, bin_sub, bin_mul, bin_eql, bin_neq, bin_lss, bin_leq, bin_gtr, bin_geq, sbin_eql, sbin_neq, b8, List.map_cons, List.map_nil, PV.rens, PV.ren, if_true, if_false, Bool.false_eq_true, reduceIte, Bool.not_true, hw, if_neg (show ¬ (1 : Nat) = 0 by decide)]
  | false => simp only [evL_op, evL_sel, evL_nx, evL_exit, evL_ret, evL_join, evL_block, evL_cond, evK_some, evJ_nx, evJ_rt, evJ_ex, evB_nx, evB_rt, evB_ex, evC2_bool, evS_and, evS_or, evS_tf, evS_ft, ev_t, ev_s, ev_c, evalOp, bin_add, bin_sub, bin_mul, bin_eql, bin_neq, bin_lss, bin_leq, bin_gtr, bin_geq, sbin_eql, sbin_neq, b8, List.map_cons, List.map_nil, PV.rens, PV.ren, if_true, if_false, Bool.false_eq_true, reduceIte, Bool.not_false]
/-- A label's end. -/
theorem body15_end (k0 : Nat) (s : List UInt8) (hs : s.length ≤ 9000000000000000000) (b i : Nat) (hb : b ≤ i) (hi : i ≤ s.length) (hc : i = s.length ∨ s[i]? = some 46) (cur : List UInt8) (hcur : (s.drop b).take (i - b) = cur) (hall : cur.all labelC = true) :
    evL T k0 q15_1 [.str s, .int .i64 b, .int .i64 i] [] = if label cur = true then some (.nx, [.str s, .int .i64 (i + 1 : Nat), .int .i64 (i + 1 : Nat)], []) else some (.rt, [.bool false], []) := by
  have h2 : (i : Int) ≤ s.length := by omega
  have hw : IntKind.i64.wrap ((i : Int) + 1) = ((i + 1 : Nat) : Int) := by rw [IntWalk.i64_in _ (by omega)]; rfl
  have hlen : cur.length = i - b := by rw [← hcur, List.length_take, List.length_drop]; omega
  have hw2 : IntKind.i64.wrap ((i : Int) - (b : Int)) = ((cur.length : Nat) : Int) := by rw [IntWalk.i64_in _ (by omega)]; omega
  have h34 := T34 cur.length 1 63
  have e4646 : decide (((46 : UInt8).toNat : Int) = 46) = true := rfl
  have hlt : i = s.length → ¬ ((i : Int) < s.length) := fun h => by omega
  have hlt' : s[i]? = some 46 → (i : Int) < s.length := fun h => by have := (List.getElem?_eq_some_iff.1 h).1; omega
  rw [label_end hall]
  cases hR : (decide ((1 : Int) ≤ cur.length) && decide ((cur.length : Int) ≤ 63)) with
  | false =>
    rw [hR] at h34
    rcases hc with h | h
    · have := hlt h
      simp only [q15_1, q15_0, evL_op, evL_sel, evL_nx, evL_exit, evL_ret, evL_join, evL_block, evL_cond, evK_some, evJ_nx, evJ_rt, evJ_ex, evB_nx, evB_rt, evB_ex, evC2_bool, evS_and, evS_or, evS_tf, evS_ft, ev_t, ev_s, ev_c, evalOp, bin_add, bin_sub, bin_mul, bin_eql, bin_neq, bin_lss, bin_leq, bin_gtr, bin_geq, sbin_eql, sbin_neq, b8, List.map_cons, List.map_nil, PV.rens, PV.ren, if_true, if_false, Bool.false_eq_true, reduceIte, this, h2, decide_true, decide_false, hw2, h34, Bool.not_false, Bool.false_and]
    · have := hlt' h
      simp only [q15_1, q15_0, evL_op, evL_sel, evL_nx, evL_exit, evL_ret, evL_join, evL_block, evL_cond, evK_some, evJ_nx, evJ_rt, evJ_ex, evB_nx, evB_rt, evB_ex, evC2_bool, evS_and, evS_or, evS_tf, evS_ft, ev_t, ev_s, ev_c, evalOp, bin_add, bin_sub, bin_mul, bin_eql, bin_neq, bin_lss, bin_leq, bin_gtr, bin_geq, sbin_eql, sbin_neq, b8, List.map_cons, List.map_nil, PV.rens, PV.ren, if_true, if_false, Bool.false_eq_true, reduceIte, this, h2, decide_true, decide_false, Int.natCast_nonneg, Int.toNat_natCast, h, e4646, Bool.not_true, Bool.and_false, hw2, h34, Bool.not_false, Bool.false_and]
  | true =>
    rw [hR] at h34
    have hpos : 1 ≤ cur.length := by
      simp only [Bool.and_eq_true, decide_eq_true_eq] at hR
      omega
    obtain ⟨x, hx, hx'⟩ : ∃ x, s[b]? = some x ∧ cur.head? = some x := by
      have hbl : b < s.length := by omega
      refine ⟨s[b], List.getElem?_eq_getElem hbl, ?_⟩
      rw [← hcur, List.drop_eq_getElem_cons hbl, show i - b = (i - b - 1) + 1 by omega, List.take_succ_cons, List.head?_cons]
    obtain ⟨z, hz, hz'⟩ : ∃ z, s[i - 1]? = some z ∧ cur.getLast? = some z := by
      have hbl : i - 1 < s.length := by omega
      refine ⟨s[i - 1], List.getElem?_eq_getElem hbl, ?_⟩
      rw [List.getLast?_eq_getElem?, hlen, ← hcur, List.getElem?_take, if_pos (by omega), List.getElem?_drop, show b + (i - b - 1) = i - 1 by omega, List.getElem?_eq_getElem hbl]
    have ex : decide ((x.toNat : Int) = 45) = (x == 45) := byte_eqn x 45 (by omega)
    have ez : decide ((z.toNat : Int) = 45) = (z == 45) := byte_eqn z 45 (by omega)
    have hw3 : IntKind.i64.wrap ((i : Int) - 1) = ((i - 1 : Nat) : Int) := by rw [IntWalk.i64_in _ (by omega)]; omega
    rw [hx', hz']
    rcases hc with h | h
    · have := hlt h
      simp only [q15_1, q15_0, evL_op, evL_sel, evL_nx, evL_exit, evL_ret, evL_join, evL_block, evL_cond, evK_some, evJ_nx, evJ_rt, evJ_ex, evB_nx, evB_rt, evB_ex, evC2_bool, evS_and, evS_or, evS_tf, evS_ft, ev_t, ev_s, ev_c, evalOp, bin_add, bin_sub, bin_mul, bin_eql, bin_neq, bin_lss, bin_leq, bin_gtr, bin_geq, sbin_eql, sbin_neq, b8, List.map_cons, List.map_nil, PV.rens, PV.ren, if_true, if_false, Bool.false_eq_true, reduceIte, this, h2, decide_true, decide_false, hw2, h34, Bool.not_true, Int.natCast_nonneg, Int.toNat_natCast, hx, ex, hw3, hz, ez, Bool.false_or, Bool.true_and, Option.some_beq_some]
      cases (x == 45) <;> cases (z == 45) <;> simp only [evL_op, evL_sel, evL_nx, evL_exit, evL_ret, evL_join, evL_block, evL_cond, evK_some, evJ_nx, evJ_rt, evJ_ex, evB_nx, evB_rt, evB_ex, evC2_bool, evS_and, evS_or, evS_tf, evS_ft, ev_t, ev_s, ev_c, evalOp, bin_add, bin_sub, bin_mul, bin_eql, bin_neq, bin_lss, bin_leq, bin_gtr, bin_geq, sbin_eql, sbin_neq, b8, List.map_cons, List.map_nil, PV.rens, PV.ren, if_true, if_false, Bool.false_eq_true, reduceIte, Bool.or_self, Bool.or_true, Bool.or_false, Bool.true_or, Bool.not_false, Bool.not_true, Bool.and_true, Bool.and_false, Bool.false_and, Bool.and_self, hw]
    · have := hlt' h
      simp only [q15_1, q15_0, evL_op, evL_sel, evL_nx, evL_exit, evL_ret, evL_join, evL_block, evL_cond, evK_some, evJ_nx, evJ_rt, evJ_ex, evB_nx, evB_rt, evB_ex, evC2_bool, evS_and, evS_or, evS_tf, evS_ft, ev_t, ev_s, ev_c, evalOp, bin_add, bin_sub, bin_mul, bin_eql, bin_neq, bin_lss, bin_leq, bin_gtr, bin_geq, sbin_eql, sbin_neq, b8, List.map_cons, List.map_nil, PV.rens, PV.ren, if_true, if_false, Bool.false_eq_true, reduceIte, this, h2, decide_true, decide_false, h, e4646, Bool.and_false, hw2, h34, Bool.not_true, Int.natCast_nonneg, Int.toNat_natCast, hx, ex, hw3, hz, ez, Bool.false_or, Bool.true_and, Option.some_beq_some]
      cases (x == 45) <;> cases (z == 45) <;> simp only [evL_op, evL_sel, evL_nx, evL_exit, evL_ret, evL_join, evL_block, evL_cond, evK_some, evJ_nx, evJ_rt, evJ_ex, evB_nx, evB_rt, evB_ex, evC2_bool, evS_and, evS_or, evS_tf, evS_ft, ev_t, ev_s, ev_c, evalOp, bin_add, bin_sub, bin_mul, bin_eql, bin_neq, bin_lss, bin_leq, bin_gtr, bin_geq, sbin_eql, sbin_neq, b8, List.map_cons, List.map_nil, PV.rens, PV.ren, if_true, if_false, Bool.false_eq_true, reduceIte, Bool.or_self, Bool.or_true, Bool.or_false, Bool.true_or, Bool.not_false, Bool.not_true, Bool.and_true, Bool.and_false, Bool.false_and, Bool.and_self, hw]
theorem loop15 (k0 : Nat) (s : List UInt8) (hs : s.length ≤ 9000000000000000000) : ∀ (j b i : Nat) (cur : List UInt8), i + j = s.length → b ≤ i → (s.drop b).take (i - b) = cur → cur.all labelC = true → ∀ k, j + 1 < k →
    loopL 0 (evL T k0 q15_1) k [.str s, .int .i64 b, .int .i64 i] [] = if rd cur (s.drop i) = true then some (.ex 0, [], []) else some (.rt, [.bool false], [])
  | j, b, i, cur, hij, hb, hcur, hall, 0, hk => by omega
  | 0, b, i, cur, hij, hb, hcur, hall, k + 1, hk => by
    have hi : i = s.length := by omega
    have h2 : s.drop i = [] := List.drop_of_length_le (by omega)
    rw [loopL_succ, head0 (env := [.str s, .int .i64 b, .int .i64 i]) rfl, body15_end k0 s hs b i hb (by omega) (.inl hi) cur hcur hall, h2]
    unfold rd
    cases label cur with
    | false => rfl
    | true =>
      obtain ⟨k', rfl⟩ : ∃ k', k = k' + 1 := ⟨k - 1, by omega⟩
      have h1 : ¬ (((i + 1 : Nat) : Int) ≤ s.length) := by omega
      have h3 : evL T k0 q15_1 [.str s, .int .i64 (i + 1 : Nat), .int .i64 (i + 1 : Nat)] [] = some (.ex 0, [], []) := by simp only [q15_1, evL_op, evL_sel, evL_nx, evL_exit, evL_ret, evL_join, evL_block, evL_cond, evK_some, evJ_nx, evJ_rt, evJ_ex, evB_nx, evB_rt, evB_ex, evC2_bool, evS_and, evS_or, evS_tf, evS_ft, ev_t, ev_s, ev_c, evalOp, bin_add, bin_sub, bin_mul, bin_eql, bin_neq, bin_lss, bin_leq, bin_gtr, bin_geq, sbin_eql, sbin_neq, b8, List.map_cons, List.map_nil, PV.rens, PV.ren, if_true, if_false, Bool.false_eq_true, reduceIte, h1, decide_false]
      simp only [if_true]
      rw [loopL_succ, head0 (env := [.str s, .int .i64 (i + 1 : Nat), .int .i64 (i + 1 : Nat)]) rfl, h3]
  | j + 1, b, i, cur, hij, hb, hcur, hall, k + 1, hk => by
    have hi : i < s.length := by omega
    have hc : s[i]? = some s[i] := List.getElem?_eq_getElem hi
    rw [loopL_succ, head0 (env := [.str s, .int .i64 b, .int .i64 i]) rfl, List.drop_eq_getElem_cons hi]
    unfold rd
    by_cases h46 : s[i] = 46
    · rw [body15_end k0 s hs b i hb (by omega) (.inr (by rw [hc, h46])) cur hcur hall, if_pos h46]
      cases label cur with
      | false => rfl
      | true =>
        simp only [if_true, Bool.true_and]
        exact loop15 k0 s hs j (i + 1) (i + 1) [] (by omega) (by omega) (by rw [Nat.sub_self]; rfl) rfl k (by omega)
    · rw [body15_in k0 s hs b i s[i] hc h46, if_neg h46]
      cases hl : labelC s[i] with
      | false => rfl
      | true =>
        simp only [if_true, Bool.true_and]
        refine loop15 k0 s hs j b (i + 1) (cur ++ [s[i]]) (by omega) (by omega) ?_ (by simp [hall, hl]) k (by omega)
        have hd : (s.drop b)[i - b]? = some s[i] := by rw [List.getElem?_drop, show b + (i - b) = i by omega]; exact hc
        rw [show i + 1 - b = (i - b) + 1 by omega, List.take_succ, hcur, hd]
        rfl
theorem T15 (s : List UInt8) (hs : s.length ≤ 9000000000000000000) : T 15 [.str s] [] = some (.bool (parts s 255 label), []) := by
  refine evT_of (k := s.length + 2) (F := l15) (H' := []) (e := [.bool (parts s 255 label)]) (l := [.bool (parts s 255 label)]) rfl rfl rfl ?_ rfl rfl
  show evL T (s.length + 2) q15 _ _ = _
  have h34 := T34 s.length 1 255
  rw [parts_rd]
  have hl := loop15 (s.length + 2) s hs s.length 0 0 [] (by omega) (by omega) (by simp) rfl (s.length + 2) (by omega)
  rw [List.drop_zero] at hl
  have h0 : evL T (s.length + 2) q15 [.str s] [] = if (!(decide ((1 : Int) ≤ s.length) && decide ((s.length : Int) ≤ 255))) = true then some (.rt, [.bool false], []) else evJ T (s.length + 2) q15_2 (evB 0 (loopL 0 (evL T (s.length + 2) q15_1) (s.length + 2) [.str s, .int .i64 (0 : Nat), .int .i64 (0 : Nat)] [])) := by
    have e0 : ((0 : Nat) : Int) = 0 := rfl
    rw [e0]
    simp only [q15, evL_op, evL_sel, evL_nx, evL_exit, evL_ret, evL_join, evL_block, evL_cond, evK_some, evJ_nx, evJ_rt, evJ_ex, evB_nx, evB_rt, evB_ex, evC2_bool, evS_and, evS_or, evS_tf, evS_ft, ev_t, ev_s, ev_c, evalOp, bin_add, bin_sub, bin_mul, bin_eql, bin_neq, bin_lss, bin_leq, bin_gtr, bin_geq, sbin_eql, sbin_neq, b8, List.map_cons, List.map_nil, PV.rens, PV.ren, if_true, if_false, Bool.false_eq_true, reduceIte, h34, evL_loop, List.length_nil]
  rw [h0, hl]
  cases s with
  | nil => rfl
  | cons a r =>
    have h1 : decide ((1 : Int) ≤ ((a :: r).length : Nat)) = true := by simp; omega
    rw [h1]
    cases decide (((a :: r).length : Int) ≤ 255) <;> cases rd [] (a :: r) <;> rfl
theorem T12 (n : Bool) (l d : List UInt8) (hl : l.length ≤ 9000000000000000000) (hd : d.length ≤ 9000000000000000000) : T 12 [pathV n l d] [] = some (.bool (pathOk n l d), []) := by
  refine evT_of (k := 0) (F := l12) (H' := [.cells [.bool n, .str l, .str d]]) (e := [.bool (pathOk n l d)]) (l := [.bool (pathOk n l d)]) rfl rfl rfl ?_ rfl rfl
  show evL T 0 q12 _ _ = _
  have a1 := T30 l hl
  have a2 := T15 d hd
  cases n with
  | true =>
    have : pathOk true l d = (decide (l = []) && decide (d = [])) := by
      cases l <;> cases d <;> simp [pathOk]
    rw [this]
    simp only [q12, evL_op, evL_sel, evL_nx, evL_exit, evL_ret, evL_join, evL_block, evL_cond, evK_some, evJ_nx, evJ_rt, evJ_ex, evB_nx, evB_rt, evB_ex, evC2_bool, evS_and, evS_or, evS_tf, evS_ft, ev_t, ev_s, ev_c, evalOp, bin_add, bin_sub, bin_mul, bin_eql, bin_neq, bin_lss, bin_leq, bin_gtr, bin_geq, sbin_eql, sbin_neq, b8, List.map_cons, List.map_nil, PV.rens, PV.ren, if_true, if_false, Bool.false_eq_true, reduceIte, Nat.reduceAdd, Nat.reduceSub, Nat.reduceMul, Nat.reduceEqDiff, Nat.reduceLeDiff, Int.reduceLE, Int.reduceLT, Int.reduceEq, Int.reduceToNat, Int.reduceAdd, Int.reduceSub, Int.reduceNeg, decide_true, decide_false, Bool.not_true, Bool.not_false, Bool.true_and, Bool.false_and, Bool.and_true, Bool.and_false, Bool.or_true, Bool.true_or, Bool.or_false, Bool.false_or, and_self, and_true, true_and, Nat.le_refl, Nat.zero_add, Nat.mul_one, Nat.one_ne_zero, Nat.zero_le, highP, lowP, Option.map_some, Option.map_none, List.drop_zero, List.take_zero, List.length_cons, List.length_nil, List.nil_append, List.append_nil, List.cons_append, fillP, PV.cells?, PV.one, PV.cleans, PV.clean, PV.of?, List.all_cons, List.all_nil, List.take_succ_cons, List.drop_succ_cons, Bool.and_self, Int.natCast_nonneg, Int.toNat_natCast, Int.toNat_zero, List.getElem?_cons_zero]
  | false =>
    have : pathOk false l d = (parts l 64 atom && parts d 255 label) := by simp [pathOk]
    rw [this]
    simp only [q12, evL_op, evL_sel, evL_nx, evL_exit, evL_ret, evL_join, evL_block, evL_cond, evK_some, evJ_nx, evJ_rt, evJ_ex, evB_nx, evB_rt, evB_ex, evC2_bool, evS_and, evS_or, evS_tf, evS_ft, ev_t, ev_s, ev_c, evalOp, bin_add, bin_sub, bin_mul, bin_eql, bin_neq, bin_lss, bin_leq, bin_gtr, bin_geq, sbin_eql, sbin_neq, b8, List.map_cons, List.map_nil, PV.rens, PV.ren, if_true, if_false, Bool.false_eq_true, reduceIte, Nat.reduceAdd, Nat.reduceSub, Nat.reduceMul, Nat.reduceEqDiff, Nat.reduceLeDiff, Int.reduceLE, Int.reduceLT, Int.reduceEq, Int.reduceToNat, Int.reduceAdd, Int.reduceSub, Int.reduceNeg, decide_true, decide_false, Bool.not_true, Bool.not_false, Bool.true_and, Bool.false_and, Bool.and_true, Bool.and_false, Bool.or_true, Bool.true_or, Bool.or_false, Bool.false_or, and_self, and_true, true_and, Nat.le_refl, Nat.zero_add, Nat.mul_one, Nat.one_ne_zero, Nat.zero_le, highP, lowP, Option.map_some, Option.map_none, List.drop_zero, List.take_zero, List.length_cons, List.length_nil, List.nil_append, List.append_nil, List.cons_append, fillP, PV.cells?, PV.one, PV.cleans, PV.clean, PV.of?, List.all_cons, List.all_nil, List.take_succ_cons, List.drop_succ_cons, Bool.and_self, Int.natCast_nonneg, Int.toNat_natCast, Int.toNat_zero, List.getElem?_cons_zero, a1, a2]
end Go.Proofs.YtgilfigaimndkaaDoor.Tab
