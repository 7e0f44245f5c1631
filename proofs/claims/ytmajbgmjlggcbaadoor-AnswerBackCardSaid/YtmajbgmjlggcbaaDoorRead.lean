/- Replies: what answer.Read tells. -/
import Derived.Test.YtmajbgmjlggcbaaDoorBytes2
namespace Go.Proofs.YtmajbgmjlggcbaaDoor.Tab
set_option linter.all false
open Go Go.RowKit Go.Proofs.YtmajbgmjlggcbaaDoor.Ev
def cutN (at_ : List UInt8) : Option (List UInt8 × List UInt8) := if Lib.index at_ nl = -1 then none else some (at_.take (Lib.index at_ nl).toNat, at_.drop ((Lib.index at_ nl).toNat + 2))
theorem cutN_no {b : List UInt8} (h : Lib.index b nl = -1) : cutN b = none := if_pos h
theorem cutN_yes {a r : List UInt8} (h : NC a) : cutN (a ++ 13 :: 10 :: r) = some (a, r) := by
  unfold cutN
  rw [h r, if_neg (by omega), Int.toNat_natCast, List.take_left]
  have : (a ++ 13 :: 10 :: r).drop (a.length + 2) = r := by
    rw [List.drop_append, List.drop_of_length_le (by omega), show a.length + 2 - a.length = 2 by omega]; rfl
  rw [this]
def readGo (b : List UInt8) : Nat → List UInt8 → Int → List (List UInt8) → Option (Int × List (List UInt8) × Nat)
  | 0, _, _, _ => none
  | k + 1, at_, c, ls =>
    if (ls.length : Int) < 20 then
      match cutN at_ with
      | none => none
      | some (line, rest) =>
        if (line.length : Int) < 4 then none else
        match Lib.atoi (line.take 3) with
        | none => none
        | some n =>
          if (decide ((0 : Int) < ls.length) && !decide (n = c)) = true then none else
          if line[3]? = some 45 then readGo b k rest n (ls ++ [line.drop 4])
          else if line[3]? = some 32 ∧ replyOk n (ls ++ [line.drop 4]) = true ∧ rb n (ls ++ [line.drop 4]) = b.take (b.length - rest.length) then some (n, ls ++ [line.drop 4], b.length - rest.length) else none
    else none
def tS (k : Nat) (ls : List (List UInt8)) : PV := .sl (.tok k) (if ls = [] then 0 else 1) ls.length (ls.map fun x => .str x)
def readP (R : Option (Int × List (List UInt8) × Nat)) (r : Fl × List PV × Hp) : Prop :=
  match R with
  | none => ∃ c p T, r = (.ex 0, [.ptr 0 0], .cells [.int .i64 c, p] :: T)
  | some (c, l, n) => replyOk c l = true ∧ r = (.rt, [.ptr 0 0, .int .i64 n, .int .i64 0], [.cells [.int .i64 c, .sl (.tok 2) 1 l.length (l.map fun x => .str x)], .dead, .tok])
theorem T24 (a b : List UInt8) : T 24 [sl8 a, sl8 b] [] = some (.bool (decide (a = b)), []) := by
  refine evT_of (k := 0) (F := l24) (H' := []) (e := [.bool (decide (a = b))]) (l := [.bool (decide (a = b))]) rfl rfl rfl ?_ rfl rfl
  show evL T 0 q24 _ _ = _
  have e1 : ∀ (l : List UInt8) (H : Hp), (if l.length = 0 then some (PV.str [], H) else some (PV.str l, H)) = some (PV.str l, H) := fun l H => by
    split
    · rename_i h; rw [List.length_eq_zero_iff.1 h]
    · rfl
  simp only [q24, evL_op, evL_sel, evL_nx, evL_exit, evL_ret, evL_join, evL_block, evL_cond, evK_some, evJ_nx, evJ_rt, evJ_ex, evB_nx, evB_rt, evB_ex, evC2_bool, evS_and, evS_or, evS_tf, evS_ft, ev_t, ev_s, ev_c, evalOp, bin_add, bin_sub, bin_mul, bin_eql, bin_neq, bin_lss, bin_leq, bin_gtr, bin_geq, sbin_eql, sbin_neq, b8, List.map_cons, List.map_nil, PV.rens, PV.ren, if_true, if_false, Bool.false_eq_true, reduceIte, Nat.reduceAdd, Nat.reduceSub, Nat.reduceMul, Nat.reduceEqDiff, Nat.reduceLeDiff, Int.reduceLE, Int.reduceLT, Int.reduceEq, Int.reduceToNat, Int.reduceAdd, Int.reduceSub, Int.reduceNeg, decide_true, decide_false, Bool.not_true, Bool.not_false, Bool.true_and, Bool.false_and, Bool.and_true, Bool.and_false, Bool.or_true, Bool.true_or, Bool.or_false, Bool.false_or, and_self, and_true, true_and, Nat.le_refl, Nat.zero_add, Nat.mul_one, Nat.one_ne_zero, Nat.zero_le, highP, lowP, Option.map_some, Option.map_none, List.drop_zero, List.take_zero, List.length_cons, List.length_nil, List.nil_append, List.append_nil, List.cons_append, fillP, PV.cells?, PV.one, PV.cleans, PV.clean, PV.of?, List.all_cons, List.all_nil, List.take_succ_cons, List.drop_succ_cons, Bool.and_self, Int.natCast_nonneg, Int.toNat_natCast, Int.toNat_zero, PV.of?, Tk.ren, tailP, evL_loop, or_true, true_or, Nat.zero_lt_one, Nat.sub_zero, List.getElem?_cons_zero, List.getElem?_cons_succ, List.set_cons_zero, List.set_cons_succ, List.take_length, bytes8_map, e1]
section
variable (b : List UInt8) (hb : b.length ≤ 1000000000)
include hb
theorem loop_read (k0 : Nat) (R : Option (Int × List (List UInt8) × Nat)) (hR : readGo b 21 b 0 [] = R) : ∃ r, loopL 1 (evL T k0 q11_1) 22 [sl8 b, .ptr 0 0, sl8 b] [.cells [.int .i64 0, .sl .nil 0 0 []]] = some r ∧ readP R r := by
  refine loop_post (n := 1) (body := evL T k0 q11_1) (σ := Nat × List UInt8 × Int × List (List UInt8)) (fun s => [sl8 b, .ptr 0 0, sl8 s.2.1]) (fun s => [.cells [.int .i64 s.2.2.1, tS 1 s.2.2.2], .tok]) (fun s => s.1)
    (fun s => s.2.2.2.length + s.1 = 21 ∧ 1 ≤ s.1 ∧ s.2.1.length ≤ b.length ∧ (∀ x ∈ s.2.2.2, x.length ≤ 1000000000) ∧ readGo b s.1 s.2.1 s.2.2.1 s.2.2.2 = R) (readP R) ?_ 22 (21, b, 0, []) [sl8 b, .ptr 0 0, sl8 b] [.cells [.int .i64 0, .sl .nil 0 0 []]] rfl ⟨rfl, by dsimp only; omega, Nat.le_refl _, fun x h => (by cases h), hR⟩ (by dsimp only; omega)
  rintro ⟨k, at_, c, ls⟩ ⟨hk, hk1, hal, hls, hgo⟩
  dsimp only at hk hk1 hal hls hgo ⊢
  obtain ⟨k, rfl⟩ : ∃ j, k = j + 1 := ⟨k - 1, by omega⟩
  unfold readGo at hgo
  by_cases h20 : (ls.length : Int) < 20
  · rw [if_pos h20] at hgo
    rcases idx_split at_ with h | ⟨a, r, h, h2, hnc⟩
    · rw [cutN_no h] at hgo
      dsimp only at hgo
      subst hgo
      have c1 := cut_no at_ h (by omega)
      refine .inl ⟨_, ?_, ?_, c, tS 1 ls, [.tok], rfl⟩
      · simp only [q11_1, evL_op, evL_sel, evL_nx, evL_exit, evL_ret, evL_join, evL_block, evL_cond, evK_some, evJ_nx, evJ_rt, evJ_ex, evB_nx, evB_rt, evB_ex, evC2_bool, evS_and, evS_or, evS_tf, evS_ft, ev_t, ev_s, ev_c, evalOp, bin_add, bin_sub, bin_mul, bin_eql, bin_neq, bin_lss, bin_leq, bin_gtr, bin_geq, sbin_eql, sbin_neq, b8, List.map_cons, List.map_nil, PV.rens, PV.ren, if_true, if_false, Bool.false_eq_true, reduceIte, Nat.reduceAdd, Nat.reduceSub, Nat.reduceMul, Nat.reduceEqDiff, Nat.reduceLeDiff, Int.reduceLE, Int.reduceLT, Int.reduceEq, Int.reduceToNat, Int.reduceAdd, Int.reduceSub, Int.reduceNeg, decide_true, decide_false, Bool.not_true, Bool.not_false, Bool.true_and, Bool.false_and, Bool.and_true, Bool.and_false, Bool.or_true, Bool.true_or, Bool.or_false, Bool.false_or, and_self, and_true, true_and, Nat.le_refl, Nat.zero_add, Nat.mul_one, Nat.one_ne_zero, Nat.zero_le, highP, lowP, Option.map_some, Option.map_none, List.drop_zero, List.take_zero, List.length_cons, List.length_nil, List.nil_append, List.append_nil, List.cons_append, fillP, PV.cells?, PV.one, PV.cleans, PV.clean, PV.of?, List.all_cons, List.all_nil, List.take_succ_cons, List.drop_succ_cons, Bool.and_self, Int.natCast_nonneg, Int.toNat_natCast, Int.toNat_zero, PV.of?, Tk.ren, tailP, evL_loop, or_true, true_or, Nat.zero_lt_one, Nat.sub_zero, List.getElem?_cons_zero, List.getElem?_cons_succ, List.set_cons_zero, List.set_cons_succ, List.take_length, PV.rens, PV.ren, tS, h20, c1]
      · simp
    · have hat := congrArg List.length h
      simp only [List.length_append, List.length_cons] at hat
      have c1 := cut_yes a r hnc (by rw [← h]; omega)
      rw [← h] at c1
      have hcut : cutN at_ = some (a, r) := by rw [h]; exact cutN_yes hnc
      rw [hcut] at hgo
      dsimp only at hgo
      by_cases h4 : (a.length : Int) < 4
      · rw [if_pos h4] at hgo
        subst hgo
        refine .inl ⟨_, ?_, ?_, c, tS 1 ls, [.tok], rfl⟩
        · simp only [q11_1, evL_op, evL_sel, evL_nx, evL_exit, evL_ret, evL_join, evL_block, evL_cond, evK_some, evJ_nx, evJ_rt, evJ_ex, evB_nx, evB_rt, evB_ex, evC2_bool, evS_and, evS_or, evS_tf, evS_ft, ev_t, ev_s, ev_c, evalOp, bin_add, bin_sub, bin_mul, bin_eql, bin_neq, bin_lss, bin_leq, bin_gtr, bin_geq, sbin_eql, sbin_neq, b8, List.map_cons, List.map_nil, PV.rens, PV.ren, if_true, if_false, Bool.false_eq_true, reduceIte, Nat.reduceAdd, Nat.reduceSub, Nat.reduceMul, Nat.reduceEqDiff, Nat.reduceLeDiff, Int.reduceLE, Int.reduceLT, Int.reduceEq, Int.reduceToNat, Int.reduceAdd, Int.reduceSub, Int.reduceNeg, decide_true, decide_false, Bool.not_true, Bool.not_false, Bool.true_and, Bool.false_and, Bool.and_true, Bool.and_false, Bool.or_true, Bool.true_or, Bool.or_false, Bool.false_or, and_self, and_true, true_and, Nat.le_refl, Nat.zero_add, Nat.mul_one, Nat.one_ne_zero, Nat.zero_le, highP, lowP, Option.map_some, Option.map_none, List.drop_zero, List.take_zero, List.length_cons, List.length_nil, List.nil_append, List.append_nil, List.cons_append, fillP, PV.cells?, PV.one, PV.cleans, PV.clean, PV.of?, List.all_cons, List.all_nil, List.take_succ_cons, List.drop_succ_cons, Bool.and_self, Int.natCast_nonneg, Int.toNat_natCast, Int.toNat_zero, PV.of?, Tk.ren, tailP, evL_loop, or_true, true_or, Nat.zero_lt_one, Nat.sub_zero, List.getElem?_cons_zero, List.getElem?_cons_succ, List.set_cons_zero, List.set_cons_succ, List.take_length, PV.rens, PV.ren, tS, h20, c1, h4]
        · simp
      · rw [if_neg h4] at hgo
        have hx1 : (true ^^ false) = true := rfl
        have hx2 : (true ^^ true) = false := rfl
        have p3 : (3 : Int) ≤ a.length := by omega
        have p3n : 3 ≤ a.length := by omega
        have p3' : (3 : Int) < a.length := by omega
        have p4 : (4 : Int) ≤ a.length := by omega
        have p4n : 4 ≤ a.length := by omega
        have et3 : (a.map b8).take 3 = (a.take 3).map b8 := by rw [List.map_take]
        have ed4 : (a.map b8).drop 4 = (a.drop 4).map b8 := by rw [List.map_drop]
        have eta : (a.map b8).take a.length = a.map b8 := List.take_of_length_le (by simp)
        have el4 : a.length - 4 = (a.drop 4).length := by simp
        have n30 : ¬ 3 = 0 := by decide
        have b2i : ∀ (l : List UInt8) (H : Hp), (if l.length = 0 then some (PV.str [], H) else some (PV.str l, H)) = some (PV.str l, H) := fun l H => by
          split
          · rename_i h; rw [List.length_eq_zero_iff.1 h]
          · rfl
        obtain ⟨ch, hch⟩ : ∃ ch, a[3]? = some ch := ⟨_, List.getElem?_eq_getElem (by omega)⟩
        have gch := get_b8' hch
        rw [hch] at hgo
        have c2 : T 23 [.str (a.take 3)] [] = (match Lib.atoi (a.take 3) with | some n => some (.tup [.int .i64 n, .ifc true], []) | none => some (.tup [.int .i64 0, .ifc false], [])) := by
          cases ha : Lib.atoi (a.take 3) with
          | none =>
            refine evT_ov (φ := ovAtoi) rfl ?_
            simp only [ovAtoi]
            rw [if_pos (by rw [List.length_take]; omega), ha]
          | some n =>
            refine evT_ov (φ := ovAtoi) rfl ?_
            simp only [ovAtoi]
            rw [if_pos (by rw [List.length_take]; omega), ha]
        cases ha : Lib.atoi (a.take 3) with
        | none =>
          rw [ha] at hgo c2
          dsimp only at hgo c2
          subst hgo
          refine .inl ⟨_, ?_, ?_, c, tS 1 ls, [.tok], rfl⟩
          · simp only [q11_1, evL_op, evL_sel, evL_nx, evL_exit, evL_ret, evL_join, evL_block, evL_cond, evK_some, evJ_nx, evJ_rt, evJ_ex, evB_nx, evB_rt, evB_ex, evC2_bool, evS_and, evS_or, evS_tf, evS_ft, ev_t, ev_s, ev_c, evalOp, bin_add, bin_sub, bin_mul, bin_eql, bin_neq, bin_lss, bin_leq, bin_gtr, bin_geq, sbin_eql, sbin_neq, b8, List.map_cons, List.map_nil, PV.rens, PV.ren, if_true, if_false, Bool.false_eq_true, reduceIte, Nat.reduceAdd, Nat.reduceSub, Nat.reduceMul, Nat.reduceEqDiff, Nat.reduceLeDiff, Int.reduceLE, Int.reduceLT, Int.reduceEq, Int.reduceToNat, Int.reduceAdd, Int.reduceSub, Int.reduceNeg, decide_true, decide_false, Bool.not_true, Bool.not_false, Bool.true_and, Bool.false_and, Bool.and_true, Bool.and_false, Bool.or_true, Bool.true_or, Bool.or_false, Bool.false_or, and_self, and_true, true_and, Nat.le_refl, Nat.zero_add, Nat.mul_one, Nat.one_ne_zero, Nat.zero_le, highP, lowP, Option.map_some, Option.map_none, List.drop_zero, List.take_zero, List.length_cons, List.length_nil, List.nil_append, List.append_nil, List.cons_append, fillP, PV.cells?, PV.one, PV.cleans, PV.clean, PV.of?, List.all_cons, List.all_nil, List.take_succ_cons, List.drop_succ_cons, Bool.and_self, Int.natCast_nonneg, Int.toNat_natCast, Int.toNat_zero, PV.of?, Tk.ren, tailP, evL_loop, or_true, true_or, Nat.zero_lt_one, Nat.sub_zero, List.getElem?_cons_zero, List.getElem?_cons_succ, List.set_cons_zero, List.set_cons_succ, List.take_length, PV.rens, PV.ren, tS, h20, c1, h4, p3, p3n, et3, n30, bytes8_map, c2, hx1]
          · simp
        | some n =>
          rw [ha] at hgo c2
          dsimp only at hgo c2
          cases hdc : (decide ((0 : Int) < ls.length) && !decide (n = c)) with
          | true =>
            rw [hdc, if_pos rfl] at hgo
            subst hgo
            refine .inl ⟨_, ?_, ?_, c, tS 1 ls, [.tok], rfl⟩
            · simp only [q11_1, evL_op, evL_sel, evL_nx, evL_exit, evL_ret, evL_join, evL_block, evL_cond, evK_some, evJ_nx, evJ_rt, evJ_ex, evB_nx, evB_rt, evB_ex, evC2_bool, evS_and, evS_or, evS_tf, evS_ft, ev_t, ev_s, ev_c, evalOp, bin_add, bin_sub, bin_mul, bin_eql, bin_neq, bin_lss, bin_leq, bin_gtr, bin_geq, sbin_eql, sbin_neq, b8, List.map_cons, List.map_nil, PV.rens, PV.ren, if_true, if_false, Bool.false_eq_true, reduceIte, Nat.reduceAdd, Nat.reduceSub, Nat.reduceMul, Nat.reduceEqDiff, Nat.reduceLeDiff, Int.reduceLE, Int.reduceLT, Int.reduceEq, Int.reduceToNat, Int.reduceAdd, Int.reduceSub, Int.reduceNeg, decide_true, decide_false, Bool.not_true, Bool.not_false, Bool.true_and, Bool.false_and, Bool.and_true, Bool.and_false, Bool.or_true, Bool.true_or, Bool.or_false, Bool.false_or, and_self, and_true, true_and, Nat.le_refl, Nat.zero_add, Nat.mul_one, Nat.one_ne_zero, Nat.zero_le, highP, lowP, Option.map_some, Option.map_none, List.drop_zero, List.take_zero, List.length_cons, List.length_nil, List.nil_append, List.append_nil, List.cons_append, fillP, PV.cells?, PV.one, PV.cleans, PV.clean, PV.of?, List.all_cons, List.all_nil, List.take_succ_cons, List.drop_succ_cons, Bool.and_self, Int.natCast_nonneg, Int.toNat_natCast, Int.toNat_zero, PV.of?, Tk.ren, tailP, evL_loop, or_true, true_or, Nat.zero_lt_one, Nat.sub_zero, List.getElem?_cons_zero, List.getElem?_cons_succ, List.set_cons_zero, List.set_cons_succ, List.take_length, PV.rens, PV.ren, tS, h20, c1, h4, p3, p3n, et3, n30, bytes8_map, c2, hx2, hdc]
            · simp
          | false =>
            rw [hdc, if_neg (by decide)] at hgo
            have hz : (if ls = [] then 0 else 1) = 1 ∨ (if ls = [] then 0 else 1) = 0 := by split <;> simp
            have hrm : (ls.length + 1) * 16 ≤ roomMax := by unfold roomMax; omega
            have e45 : decide ((ch.toNat : Int) = 45) = decide (ch = 45) := by
              have := b8_neq ch 45
              rw [← Bool.not_not (decide ((ch.toNat : Int) = 45)), show (!decide ((ch.toNat : Int) = 45)) = !decide (ch = 45) from this, Bool.not_not]
            have e32 : (!decide ((ch.toNat : Int) = 32)) = !decide (ch = 32) := b8_neq ch 32
            have hxl : ∀ x ∈ ls ++ [a.drop 4], x.length ≤ 1000000000 := fun x hx => by
              rcases List.mem_append.1 hx with hx | hx
              · exact hls x hx
              · rw [List.mem_singleton.1 hx, List.length_drop]; omega
            have hmp : (ls ++ [a.drop 4]).map (fun x => PV.str x) = ls.map (fun x => PV.str x) ++ [.str (a.drop 4)] := by rw [List.map_append]; rfl
            have hln : (ls ++ [a.drop 4]).length = ls.length + 1 := by simp
            by_cases hm : ch = 45
            · subst hm
              rw [if_pos rfl] at hgo
              refine .inr ⟨(k, r, n, ls ++ [a.drop 4]), [sl8 b, .ptr 0 0, sl8 r], [.cells [.int .i64 n, .sl (.tok 2) 1 (ls.length + 1) (ls.map (fun x => PV.str x) ++ [.str (a.drop 4)])], .dead, .tok], ?_, ?_, ⟨by dsimp only; omega, by dsimp only; omega, by dsimp only; omega, hxl, hgo⟩, by dsimp only; omega⟩
              · have e45' : decide (((45 : UInt8).toNat : Int) = 45) = true := rfl
                simp only [q11_1, q11_0, evL_op, evL_sel, evL_nx, evL_exit, evL_ret, evL_join, evL_block, evL_cond, evK_some, evJ_nx, evJ_rt, evJ_ex, evB_nx, evB_rt, evB_ex, evC2_bool, evS_and, evS_or, evS_tf, evS_ft, ev_t, ev_s, ev_c, evalOp, bin_add, bin_sub, bin_mul, bin_eql, bin_neq, bin_lss, bin_leq, bin_gtr, bin_geq, sbin_eql, sbin_neq, b8, List.map_cons, List.map_nil, PV.rens, PV.ren, if_true, if_false, Bool.false_eq_true, reduceIte, Nat.reduceAdd, Nat.reduceSub, Nat.reduceMul, Nat.reduceEqDiff, Nat.reduceLeDiff, Int.reduceLE, Int.reduceLT, Int.reduceEq, Int.reduceToNat, Int.reduceAdd, Int.reduceSub, Int.reduceNeg, decide_true, decide_false, Bool.not_true, Bool.not_false, Bool.true_and, Bool.false_and, Bool.and_true, Bool.and_false, Bool.or_true, Bool.true_or, Bool.or_false, Bool.false_or, and_self, and_true, true_and, Nat.le_refl, Nat.zero_add, Nat.mul_one, Nat.one_ne_zero, Nat.zero_le, highP, lowP, Option.map_some, Option.map_none, List.drop_zero, List.take_zero, List.length_cons, List.length_nil, List.nil_append, List.append_nil, List.cons_append, fillP, PV.cells?, PV.one, PV.cleans, PV.clean, PV.of?, List.all_cons, List.all_nil, List.take_succ_cons, List.drop_succ_cons, Bool.and_self, Int.natCast_nonneg, Int.toNat_natCast, Int.toNat_zero, PV.of?, Tk.ren, tailP, evL_loop, or_true, true_or, Nat.zero_lt_one, Nat.sub_zero, List.getElem?_cons_zero, List.getElem?_cons_succ, List.set_cons_zero, List.set_cons_succ, List.take_length, PV.rens, PV.ren, tS, h20, c1, h4, p3, p3n, p3', p4, p4n, et3, ed4, eta, el4, n30, bytes8_map, b2i, c2, hx2, hdc, hz, hrm, gch, e45']
              · show _ = ([sl8 b, PV.ptr 0 0, sl8 r], [Ob.cells [.int .i64 n, tS 1 (ls ++ [a.drop 4])], .tok])
                unfold tS
                rw [if_neg (by simp), hln, hmp]
                rfl
            · have hm' : decide (ch = 45) = false := by simpa using hm
              rw [if_neg (fun e => hm (Option.some.inj e))] at hgo
              have e45' : decide ((ch.toNat : Int) = 45) = false := by rw [e45]; exact hm'
              have w5 : IntKind.i64.wrap ((b.length : Int) - r.length) = ((b.length - r.length : Nat) : Int) := by rw [wr (by omega) (by omega)]; omega
              have q1 : ((b.length - r.length : Nat) : Int) ≤ b.length := by omega
              have q1' : b.length - r.length ≤ b.length := by omega
              have q2 : (0 : Int) ≤ ((b.length - r.length : Nat) : Int) := by omega
              have etk : (b.map b8).take (b.length - r.length) = (b.take (b.length - r.length)).map b8 := by rw [List.map_take]
              have htl : (b.take (b.length - r.length)).length = b.length - r.length := by rw [List.length_take]; omega
              generalize hL : ls ++ [a.drop 4] = L at *
              have c24 := T24 (rb n L) (b.take (b.length - r.length))
              unfold sl8 at c24
              rw [htl] at c24
              generalize b.length - r.length = nx at *
              cases hok : replyOk n L with
              | false =>
                rw [hok, if_neg (by simp)] at hgo
                subst hgo
                have c10 := Bytes_no n L (fun x hx => by have := hxl x hx; omega) hok
                unfold slS at c10
                rw [hmp, hln] at c10
                refine .inl ⟨_, ?_, ?_, n, .sl (.tok 2) 1 (ls.length + 1) (ls.map (fun x => PV.str x) ++ [.str (a.drop 4)]), [.dead, .tok], rfl⟩
                · cases h32 : decide (ch = 32) <;> rw [h32] at e32 <;> simp only [q11_1, evL_op, evL_sel, evL_nx, evL_exit, evL_ret, evL_join, evL_block, evL_cond, evK_some, evJ_nx, evJ_rt, evJ_ex, evB_nx, evB_rt, evB_ex, evC2_bool, evS_and, evS_or, evS_tf, evS_ft, ev_t, ev_s, ev_c, evalOp, bin_add, bin_sub, bin_mul, bin_eql, bin_neq, bin_lss, bin_leq, bin_gtr, bin_geq, sbin_eql, sbin_neq, b8, List.map_cons, List.map_nil, PV.rens, PV.ren, if_true, if_false, Bool.false_eq_true, reduceIte, Nat.reduceAdd, Nat.reduceSub, Nat.reduceMul, Nat.reduceEqDiff, Nat.reduceLeDiff, Int.reduceLE, Int.reduceLT, Int.reduceEq, Int.reduceToNat, Int.reduceAdd, Int.reduceSub, Int.reduceNeg, decide_true, decide_false, Bool.not_true, Bool.not_false, Bool.true_and, Bool.false_and, Bool.and_true, Bool.and_false, Bool.or_true, Bool.true_or, Bool.or_false, Bool.false_or, and_self, and_true, true_and, Nat.le_refl, Nat.zero_add, Nat.mul_one, Nat.one_ne_zero, Nat.zero_le, highP, lowP, Option.map_some, Option.map_none, List.drop_zero, List.take_zero, List.length_cons, List.length_nil, List.nil_append, List.append_nil, List.cons_append, fillP, PV.cells?, PV.one, PV.cleans, PV.clean, PV.of?, List.all_cons, List.all_nil, List.take_succ_cons, List.drop_succ_cons, Bool.and_self, Int.natCast_nonneg, Int.toNat_natCast, Int.toNat_zero, PV.of?, Tk.ren, tailP, evL_loop, or_true, true_or, Nat.zero_lt_one, Nat.sub_zero, List.getElem?_cons_zero, List.getElem?_cons_succ, List.set_cons_zero, List.set_cons_succ, List.take_length, PV.rens, PV.ren, tS, h20, c1, h4, p3, p3n, p3', p4, p4n, et3, ed4, eta, el4, n30, bytes8_map, b2i, c2, hx2, hdc, hz, hrm, gch, e45', c10, w5, e32]
                · simp
              | true =>
                have c10 := Bytes_yes n L hok
                unfold slS at c10
                rw [hmp, hln] at c10
                cases h32 : decide (ch = 32) with
                | false =>
                  rw [if_neg (fun e => by
                    have := Option.some.inj e.1
                    rw [decide_eq_true this] at h32; cases h32)] at hgo
                  subst hgo
                  rw [h32] at e32
                  refine .inl ⟨_, ?_, ?_, n, .sl (.tok 2) 1 (ls.length + 1) (ls.map (fun x => PV.str x) ++ [.str (a.drop 4)]), [.dead, .tok], rfl⟩
                  · simp only [q11_1, evL_op, evL_sel, evL_nx, evL_exit, evL_ret, evL_join, evL_block, evL_cond, evK_some, evJ_nx, evJ_rt, evJ_ex, evB_nx, evB_rt, evB_ex, evC2_bool, evS_and, evS_or, evS_tf, evS_ft, ev_t, ev_s, ev_c, evalOp, bin_add, bin_sub, bin_mul, bin_eql, bin_neq, bin_lss, bin_leq, bin_gtr, bin_geq, sbin_eql, sbin_neq, b8, List.map_cons, List.map_nil, PV.rens, PV.ren, if_true, if_false, Bool.false_eq_true, reduceIte, Nat.reduceAdd, Nat.reduceSub, Nat.reduceMul, Nat.reduceEqDiff, Nat.reduceLeDiff, Int.reduceLE, Int.reduceLT, Int.reduceEq, Int.reduceToNat, Int.reduceAdd, Int.reduceSub, Int.reduceNeg, decide_true, decide_false, Bool.not_true, Bool.not_false, Bool.true_and, Bool.false_and, Bool.and_true, Bool.and_false, Bool.or_true, Bool.true_or, Bool.or_false, Bool.false_or, and_self, and_true, true_and, Nat.le_refl, Nat.zero_add, Nat.mul_one, Nat.one_ne_zero, Nat.zero_le, highP, lowP, Option.map_some, Option.map_none, List.drop_zero, List.take_zero, List.length_cons, List.length_nil, List.nil_append, List.append_nil, List.cons_append, fillP, PV.cells?, PV.one, PV.cleans, PV.clean, PV.of?, List.all_cons, List.all_nil, List.take_succ_cons, List.drop_succ_cons, Bool.and_self, Int.natCast_nonneg, Int.toNat_natCast, Int.toNat_zero, PV.of?, Tk.ren, tailP, evL_loop, or_true, true_or, Nat.zero_lt_one, Nat.sub_zero, List.getElem?_cons_zero, List.getElem?_cons_succ, List.set_cons_zero, List.set_cons_succ, List.take_length, PV.rens, PV.ren, tS, h20, c1, h4, p3, p3n, p3', p4, p4n, et3, ed4, eta, el4, n30, bytes8_map, b2i, c2, hx2, hdc, hz, hrm, gch, e45', c10, w5, e32]
                  · simp
                | true =>
                  rw [h32] at e32
                  have h32' : ch = 32 := by simpa using h32
                  by_cases heq : rb n L = b.take nx
                  · rw [if_pos ⟨by rw [h32'], hok, heq⟩] at hgo
                    subst hgo
                    rw [decide_eq_true heq] at c24
                    refine .inl ⟨(.rt, [.ptr 0 0, .int .i64 nx, .int .i64 0], [.cells [.int .i64 n, .sl (.tok 2) 1 (ls.length + 1) (ls.map (fun x => PV.str x) ++ [.str (a.drop 4)])], .dead, .tok]), ?_, by simp, hok, by rw [hmp, hln]⟩
                    simp only [q11_1, evL_op, evL_sel, evL_nx, evL_exit, evL_ret, evL_join, evL_block, evL_cond, evK_some, evJ_nx, evJ_rt, evJ_ex, evB_nx, evB_rt, evB_ex, evC2_bool, evS_and, evS_or, evS_tf, evS_ft, ev_t, ev_s, ev_c, evalOp, bin_add, bin_sub, bin_mul, bin_eql, bin_neq, bin_lss, bin_leq, bin_gtr, bin_geq, sbin_eql, sbin_neq, b8, List.map_cons, List.map_nil, PV.rens, PV.ren, if_true, if_false, Bool.false_eq_true, reduceIte, Nat.reduceAdd, Nat.reduceSub, Nat.reduceMul, Nat.reduceEqDiff, Nat.reduceLeDiff, Int.reduceLE, Int.reduceLT, Int.reduceEq, Int.reduceToNat, Int.reduceAdd, Int.reduceSub, Int.reduceNeg, decide_true, decide_false, Bool.not_true, Bool.not_false, Bool.true_and, Bool.false_and, Bool.and_true, Bool.and_false, Bool.or_true, Bool.true_or, Bool.or_false, Bool.false_or, and_self, and_true, true_and, Nat.le_refl, Nat.zero_add, Nat.mul_one, Nat.one_ne_zero, Nat.zero_le, highP, lowP, Option.map_some, Option.map_none, List.drop_zero, List.take_zero, List.length_cons, List.length_nil, List.nil_append, List.append_nil, List.cons_append, fillP, PV.cells?, PV.one, PV.cleans, PV.clean, PV.of?, List.all_cons, List.all_nil, List.take_succ_cons, List.drop_succ_cons, Bool.and_self, Int.natCast_nonneg, Int.toNat_natCast, Int.toNat_zero, PV.of?, Tk.ren, tailP, evL_loop, or_true, true_or, Nat.zero_lt_one, Nat.sub_zero, List.getElem?_cons_zero, List.getElem?_cons_succ, List.set_cons_zero, List.set_cons_succ, List.take_length, PV.rens, PV.ren, tS, h20, c1, h4, p3, p3n, p3', p4, p4n, et3, ed4, eta, el4, n30, bytes8_map, b2i, c2, hx2, hdc, hz, hrm, gch, e45', c10, w5, e32, q1, q1', q2, etk, c24, PV.cells?]
                  · rw [if_neg (fun e => heq e.2.2)] at hgo
                    subst hgo
                    rw [decide_eq_false heq] at c24
                    refine .inl ⟨_, ?_, ?_, n, .sl (.tok 2) 1 (ls.length + 1) (ls.map (fun x => PV.str x) ++ [.str (a.drop 4)]), [.dead, .tok], rfl⟩
                    · simp only [q11_1, evL_op, evL_sel, evL_nx, evL_exit, evL_ret, evL_join, evL_block, evL_cond, evK_some, evJ_nx, evJ_rt, evJ_ex, evB_nx, evB_rt, evB_ex, evC2_bool, evS_and, evS_or, evS_tf, evS_ft, ev_t, ev_s, ev_c, evalOp, bin_add, bin_sub, bin_mul, bin_eql, bin_neq, bin_lss, bin_leq, bin_gtr, bin_geq, sbin_eql, sbin_neq, b8, List.map_cons, List.map_nil, PV.rens, PV.ren, if_true, if_false, Bool.false_eq_true, reduceIte, Nat.reduceAdd, Nat.reduceSub, Nat.reduceMul, Nat.reduceEqDiff, Nat.reduceLeDiff, Int.reduceLE, Int.reduceLT, Int.reduceEq, Int.reduceToNat, Int.reduceAdd, Int.reduceSub, Int.reduceNeg, decide_true, decide_false, Bool.not_true, Bool.not_false, Bool.true_and, Bool.false_and, Bool.and_true, Bool.and_false, Bool.or_true, Bool.true_or, Bool.or_false, Bool.false_or, and_self, and_true, true_and, Nat.le_refl, Nat.zero_add, Nat.mul_one, Nat.one_ne_zero, Nat.zero_le, highP, lowP, Option.map_some, Option.map_none, List.drop_zero, List.take_zero, List.length_cons, List.length_nil, List.nil_append, List.append_nil, List.cons_append, fillP, PV.cells?, PV.one, PV.cleans, PV.clean, PV.of?, List.all_cons, List.all_nil, List.take_succ_cons, List.drop_succ_cons, Bool.and_self, Int.natCast_nonneg, Int.toNat_natCast, Int.toNat_zero, PV.of?, Tk.ren, tailP, evL_loop, or_true, true_or, Nat.zero_lt_one, Nat.sub_zero, List.getElem?_cons_zero, List.getElem?_cons_succ, List.set_cons_zero, List.set_cons_succ, List.take_length, PV.rens, PV.ren, tS, h20, c1, h4, p3, p3n, p3', p4, p4n, et3, ed4, eta, el4, n30, bytes8_map, b2i, c2, hx2, hdc, hz, hrm, gch, e45', c10, w5, e32, q1, q1', q2, etk, c24]
                    · simp
  · rw [if_neg h20] at hgo
    subst hgo
    refine .inl ⟨_, ?_, ?_, c, tS 1 ls, [.tok], rfl⟩
    · simp only [q11_1, evL_op, evL_sel, evL_nx, evL_exit, evL_ret, evL_join, evL_block, evL_cond, evK_some, evJ_nx, evJ_rt, evJ_ex, evB_nx, evB_rt, evB_ex, evC2_bool, evS_and, evS_or, evS_tf, evS_ft, ev_t, ev_s, ev_c, evalOp, bin_add, bin_sub, bin_mul, bin_eql, bin_neq, bin_lss, bin_leq, bin_gtr, bin_geq, sbin_eql, sbin_neq, b8, List.map_cons, List.map_nil, PV.rens, PV.ren, if_true, if_false, Bool.false_eq_true, reduceIte, Nat.reduceAdd, Nat.reduceSub, Nat.reduceMul, Nat.reduceEqDiff, Nat.reduceLeDiff, Int.reduceLE, Int.reduceLT, Int.reduceEq, Int.reduceToNat, Int.reduceAdd, Int.reduceSub, Int.reduceNeg, decide_true, decide_false, Bool.not_true, Bool.not_false, Bool.true_and, Bool.false_and, Bool.and_true, Bool.and_false, Bool.or_true, Bool.true_or, Bool.or_false, Bool.false_or, and_self, and_true, true_and, Nat.le_refl, Nat.zero_add, Nat.mul_one, Nat.one_ne_zero, Nat.zero_le, highP, lowP, Option.map_some, Option.map_none, List.drop_zero, List.take_zero, List.length_cons, List.length_nil, List.nil_append, List.append_nil, List.cons_append, fillP, PV.cells?, PV.one, PV.cleans, PV.clean, PV.of?, List.all_cons, List.all_nil, List.take_succ_cons, List.drop_succ_cons, Bool.and_self, Int.natCast_nonneg, Int.toNat_natCast, Int.toNat_zero, PV.of?, Tk.ren, tailP, evL_loop, or_true, true_or, Nat.zero_lt_one, Nat.sub_zero, List.getElem?_cons_zero, List.getElem?_cons_succ, List.set_cons_zero, List.set_cons_succ, List.take_length, PV.rens, PV.ren, tS, h20]
    · simp
end
end Go.Proofs.YtmajbgmjlggcbaaDoor.Tab
