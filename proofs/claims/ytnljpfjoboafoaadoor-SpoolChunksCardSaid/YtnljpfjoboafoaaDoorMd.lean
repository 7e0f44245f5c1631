/- Mails packed, whole. -/
import Derived.Test.YtnljpfjoboafoaaDoorMc
namespace Go.Proofs.YtnljpfjoboafoaaDoor.Tab
set_option linter.all false
open Go Go.RowKit Go.Proofs.YtnljpfjoboafoaaDoor.Ev
section
variable {H : Hp} {q p : Nat} {s : Spl} {a b c d : PV}
theorem T_pack {r : Rc} {cs : List PV} (h : SH H q p s a b c d) (hr : RecR r cs) (hf : Fits r) (hl : s.items.length ≤ 1000000) (hpk : 0 ≤ s.packs) (hpk2 : s.packs ≤ 1000000) :
    ∃ H', T 35 [.ptr p 0, .agg cs] H = some (.bool (packS s r).isSome, H') ∧ SHx H' q p ((packS s r).getD s) ∧ H.length ≤ H'.length := by
  obtain ⟨x1, x2, x3⟩ := hr.box
  obtain ⟨f1, f2, f3, f4⟩ := hf
  have hc12 : (cs.drop 12).take 1 = [.int .i64 r.number] := by obtain ⟨ra, rb, rc, rd, rfl, _⟩ := hr; rfl
  obtain ⟨t, z, hc10, ht, hz⟩ : ∃ t z, (cs.drop 10).take 1 = [.sl t z r.ids.length (r.ids.map fun x => .int .i64 x)] ∧ (t = .no ∨ t = .nil ∧ r.ids.length = 0) ∧ (z = 1 ∨ r.ids.length = 0) := by
    obtain ⟨ra, rb, rc, rd, rfl, _, _, ⟨t, z, rfl, h1, h2⟩, _⟩ := hr
    exact ⟨t, z, rfl, h1, h2⟩
  have hpl := h.plt
  have hql := h.qlt
  have hp := h.at_
  unfold cellS at hp
  have hw : IntKind.i64.wrap (s.packs + 1) = s.packs + 1 := wr (by omega) (by omega)
  unfold packS
  generalize r.number = num at *
  generalize r.ids = ids at *
  by_cases g1 : num = s.packs + 1
  · have hwn : IntKind.i64.wrap num = num := by rw [g1]; exact hw
    by_cases g2 : (1 : Int) ≤ ids.length
    · have g2' : ¬ (ids.length : Int) < 1 := by omega
      by_cases g3 : (ids.length : Int) ≤ 4
      · have g3' : ¬ (4 : Int) < ids.length := by omega
        obtain rfl : z = 1 := hz.resolve_right (by omega)
        obtain rfl : t = .no := ht.resolve_right (fun h => by have := h.2; omega)
        simp only [decide_eq_true g1, decide_eq_true g2, decide_eq_true g3, Bool.true_and]
        obtain ⟨H1, hg, ⟨a1, b1, c1, d1, h1⟩, hl1⟩ := pack_loop (q := q) (ids := ids) hc10 ⟨a, b, c, d, h⟩ (Nat.le_refl _) hpl hql hl f3 100 100 (by omega)
        rcases hg with ⟨hg, lp⟩ | ⟨hg, lp⟩
        · rw [hg]
          refine fin_bool (k := 100) (F := l35) rfl rfl rfl rfl rfl ?_ h1 hl1 hpl hql
          show evL T 100 q35 _ _ = _
          unfold q35
          rw [evL_op, bx (by rfl) x1 x2, evK_some]
          simp only [inP] at lp
          simp only [evL_op, evL_sel, evL_nx, evL_exit, evL_ret, evL_join, evL_block, evL_cond, evK_some, evJ_nx, evJ_rt, evJ_ex, evB_nx, evB_rt, evB_ex, evC2_bool, evS_and, evS_or, evS_tf, evS_ft, ev_t, ev_s, ev_c, evalOp, bin_add, bin_sub, bin_mul, bin_eql, bin_neq, bin_lss, bin_leq, bin_gtr, bin_geq, sbin_eql, sbin_neq, b8, List.map_cons, List.map_nil, PV.rens, PV.ren, if_true, if_false, Bool.false_eq_true, reduceIte, Nat.reduceAdd, Nat.reduceSub, Nat.reduceMul, Nat.reduceEqDiff, Nat.reduceLeDiff, Int.reduceLE, Int.reduceLT, Int.reduceEq, Int.reduceToNat, Int.reduceAdd, Int.reduceSub, Int.reduceNeg, decide_true, decide_false, Bool.not_true, Bool.not_false, Bool.true_and, Bool.false_and, Bool.and_true, Bool.and_false, Bool.or_true, Bool.true_or, Bool.or_false, Bool.false_or, and_self, and_true, true_and, Nat.le_refl, Nat.zero_add, Nat.mul_one, Nat.one_ne_zero, Nat.zero_le, highP, lowP, Option.map_some, Option.map_none, List.drop_zero, List.take_zero, List.length_cons, List.length_nil, List.nil_append, List.append_nil, List.cons_append, fillP, PV.cells?, PV.one, PV.cleans, PV.clean, PV.of?, List.all_cons, List.all_nil, List.take_succ_cons, List.drop_succ_cons, Bool.and_self, Int.natCast_nonneg, Int.toNat_natCast, Int.toNat_zero, PV.of?, Tk.ren, tailP, evL_loop, or_true, true_or, Nat.zero_lt_one, Nat.sub_zero, List.getElem?_cons_zero, List.getElem?_cons_succ, List.set_cons_zero, List.set_cons_succ, List.take_length, hc10, hc12, hp, hwn, ← g1, ne_eq, g2', g3']
          rw [lp]
          rfl
        · rw [hg]
          have hp1 := h1.plt
          have hq1 := h1.qlt
          obtain ⟨H2, lp2, ⟨a2, b2, c2, d2, h2⟩, hl2⟩ := pack_set (q := q) (ids := ids) (n := H1.length) hc12 ⟨a1, b1, c1, d1, h1⟩ (Nat.le_refl _) hp1 hq1 hl f3 (packGo_all hg) 100 100 (by omega)
          have hp2 := h2.at_
          unfold cellS at hp2
          dsimp only at hp2
          have hS := h2.store (s' := { s with items := ids.foldl (packI num) s.items, packs := num }) rfl rfl rfl rfl
          refine fin_bool (k := 100) (F := l35) rfl rfl rfl rfl rfl ?_ hS (by simp; omega) hpl hql
          show evL T 100 q35 _ _ = _
          unfold q35
          rw [evL_op, bx (by rfl) x1 x2, evK_some]
          simp only [inP] at lp lp2
          simp only [evL_op, evL_sel, evL_nx, evL_exit, evL_ret, evL_join, evL_block, evL_cond, evK_some, evJ_nx, evJ_rt, evJ_ex, evB_nx, evB_rt, evB_ex, evC2_bool, evS_and, evS_or, evS_tf, evS_ft, ev_t, ev_s, ev_c, evalOp, bin_add, bin_sub, bin_mul, bin_eql, bin_neq, bin_lss, bin_leq, bin_gtr, bin_geq, sbin_eql, sbin_neq, b8, List.map_cons, List.map_nil, PV.rens, PV.ren, if_true, if_false, Bool.false_eq_true, reduceIte, Nat.reduceAdd, Nat.reduceSub, Nat.reduceMul, Nat.reduceEqDiff, Nat.reduceLeDiff, Int.reduceLE, Int.reduceLT, Int.reduceEq, Int.reduceToNat, Int.reduceAdd, Int.reduceSub, Int.reduceNeg, decide_true, decide_false, Bool.not_true, Bool.not_false, Bool.true_and, Bool.false_and, Bool.and_true, Bool.and_false, Bool.or_true, Bool.true_or, Bool.or_false, Bool.false_or, and_self, and_true, true_and, Nat.le_refl, Nat.zero_add, Nat.mul_one, Nat.one_ne_zero, Nat.zero_le, highP, lowP, Option.map_some, Option.map_none, List.drop_zero, List.take_zero, List.length_cons, List.length_nil, List.nil_append, List.append_nil, List.cons_append, fillP, PV.cells?, PV.one, PV.cleans, PV.clean, PV.of?, List.all_cons, List.all_nil, List.take_succ_cons, List.drop_succ_cons, Bool.and_self, Int.natCast_nonneg, Int.toNat_natCast, Int.toNat_zero, PV.of?, Tk.ren, tailP, evL_loop, or_true, true_or, Nat.zero_lt_one, Nat.sub_zero, List.getElem?_cons_zero, List.getElem?_cons_succ, List.set_cons_zero, List.set_cons_succ, List.take_length, hc10, hc12, hp, hwn, ← g1, ne_eq, g2', g3']
          rw [lp]
          simp only [q35_5, evL_op, evL_sel, evL_nx, evL_exit, evL_ret, evL_join, evL_block, evL_cond, evK_some, evJ_nx, evJ_rt, evJ_ex, evB_nx, evB_rt, evB_ex, evC2_bool, evS_and, evS_or, evS_tf, evS_ft, ev_t, ev_s, ev_c, evalOp, bin_add, bin_sub, bin_mul, bin_eql, bin_neq, bin_lss, bin_leq, bin_gtr, bin_geq, sbin_eql, sbin_neq, b8, List.map_cons, List.map_nil, PV.rens, PV.ren, if_true, if_false, Bool.false_eq_true, reduceIte, Nat.reduceAdd, Nat.reduceSub, Nat.reduceMul, Nat.reduceEqDiff, Nat.reduceLeDiff, Int.reduceLE, Int.reduceLT, Int.reduceEq, Int.reduceToNat, Int.reduceAdd, Int.reduceSub, Int.reduceNeg, decide_true, decide_false, Bool.not_true, Bool.not_false, Bool.true_and, Bool.false_and, Bool.and_true, Bool.and_false, Bool.or_true, Bool.true_or, Bool.or_false, Bool.false_or, and_self, and_true, true_and, Nat.le_refl, Nat.zero_add, Nat.mul_one, Nat.one_ne_zero, Nat.zero_le, highP, lowP, Option.map_some, Option.map_none, List.drop_zero, List.take_zero, List.length_cons, List.length_nil, List.nil_append, List.append_nil, List.cons_append, fillP, PV.cells?, PV.one, PV.cleans, PV.clean, PV.of?, List.all_cons, List.all_nil, List.take_succ_cons, List.drop_succ_cons, Bool.and_self, Int.natCast_nonneg, Int.toNat_natCast, Int.toNat_zero, PV.of?, Tk.ren, tailP, evL_loop, or_true, true_or, Nat.zero_lt_one, Nat.sub_zero, List.getElem?_cons_zero, List.getElem?_cons_succ, List.set_cons_zero, List.set_cons_succ, List.take_length, hc10]
          rw [lp2]
          simp only [q35_4, evL_op, evL_sel, evL_nx, evL_exit, evL_ret, evL_join, evL_block, evL_cond, evK_some, evJ_nx, evJ_rt, evJ_ex, evB_nx, evB_rt, evB_ex, evC2_bool, evS_and, evS_or, evS_tf, evS_ft, ev_t, ev_s, ev_c, evalOp, bin_add, bin_sub, bin_mul, bin_eql, bin_neq, bin_lss, bin_leq, bin_gtr, bin_geq, sbin_eql, sbin_neq, b8, List.map_cons, List.map_nil, PV.rens, PV.ren, if_true, if_false, Bool.false_eq_true, reduceIte, Nat.reduceAdd, Nat.reduceSub, Nat.reduceMul, Nat.reduceEqDiff, Nat.reduceLeDiff, Int.reduceLE, Int.reduceLT, Int.reduceEq, Int.reduceToNat, Int.reduceAdd, Int.reduceSub, Int.reduceNeg, decide_true, decide_false, Bool.not_true, Bool.not_false, Bool.true_and, Bool.false_and, Bool.and_true, Bool.and_false, Bool.or_true, Bool.true_or, Bool.or_false, Bool.false_or, and_self, and_true, true_and, Nat.le_refl, Nat.zero_add, Nat.mul_one, Nat.one_ne_zero, Nat.zero_le, highP, lowP, Option.map_some, Option.map_none, List.drop_zero, List.take_zero, List.length_cons, List.length_nil, List.nil_append, List.append_nil, List.cons_append, fillP, PV.cells?, PV.one, PV.cleans, PV.clean, PV.of?, List.all_cons, List.all_nil, List.take_succ_cons, List.drop_succ_cons, Bool.and_self, Int.natCast_nonneg, Int.toNat_natCast, Int.toNat_zero, PV.of?, Tk.ren, tailP, evL_loop, or_true, true_or, Nat.zero_lt_one, Nat.sub_zero, List.getElem?_cons_zero, List.getElem?_cons_succ, List.set_cons_zero, List.set_cons_succ, List.take_length, hc12, hp2, cellS]
          rfl
      · have g3' : (4 : Int) < ids.length := by omega
        simp only [decide_eq_false g3, Bool.and_false, Bool.false_and, Bool.false_eq_true, if_false]
        refine fin_bool (k := 0) (F := l35) rfl rfl rfl rfl rfl ?_ h (Nat.le_refl _) hpl hql
        show evL T 0 q35 _ _ = _
        unfold q35
        rw [evL_op, bx (by rfl) x1 x2, evK_some]
        simp only [evL_op, evL_sel, evL_nx, evL_exit, evL_ret, evL_join, evL_block, evL_cond, evK_some, evJ_nx, evJ_rt, evJ_ex, evB_nx, evB_rt, evB_ex, evC2_bool, evS_and, evS_or, evS_tf, evS_ft, ev_t, ev_s, ev_c, evalOp, bin_add, bin_sub, bin_mul, bin_eql, bin_neq, bin_lss, bin_leq, bin_gtr, bin_geq, sbin_eql, sbin_neq, b8, List.map_cons, List.map_nil, PV.rens, PV.ren, if_true, if_false, Bool.false_eq_true, reduceIte, Nat.reduceAdd, Nat.reduceSub, Nat.reduceMul, Nat.reduceEqDiff, Nat.reduceLeDiff, Int.reduceLE, Int.reduceLT, Int.reduceEq, Int.reduceToNat, Int.reduceAdd, Int.reduceSub, Int.reduceNeg, decide_true, decide_false, Bool.not_true, Bool.not_false, Bool.true_and, Bool.false_and, Bool.and_true, Bool.and_false, Bool.or_true, Bool.true_or, Bool.or_false, Bool.false_or, and_self, and_true, true_and, Nat.le_refl, Nat.zero_add, Nat.mul_one, Nat.one_ne_zero, Nat.zero_le, highP, lowP, Option.map_some, Option.map_none, List.drop_zero, List.take_zero, List.length_cons, List.length_nil, List.nil_append, List.append_nil, List.cons_append, fillP, PV.cells?, PV.one, PV.cleans, PV.clean, PV.of?, List.all_cons, List.all_nil, List.take_succ_cons, List.drop_succ_cons, Bool.and_self, Int.natCast_nonneg, Int.toNat_natCast, Int.toNat_zero, PV.of?, Tk.ren, tailP, evL_loop, or_true, true_or, Nat.zero_lt_one, Nat.sub_zero, List.getElem?_cons_zero, List.getElem?_cons_succ, List.set_cons_zero, List.set_cons_succ, List.take_length, hc10, hc12, hp, hwn, ← g1, g2', g3']
        rfl
    · have g2' : (ids.length : Int) < 1 := by omega
      simp only [decide_eq_false g2, Bool.and_false, Bool.false_and, Bool.false_eq_true, if_false]
      refine fin_bool (k := 0) (F := l35) rfl rfl rfl rfl rfl ?_ h (Nat.le_refl _) hpl hql
      show evL T 0 q35 _ _ = _
      unfold q35
      rw [evL_op, bx (by rfl) x1 x2, evK_some]
      simp only [evL_op, evL_sel, evL_nx, evL_exit, evL_ret, evL_join, evL_block, evL_cond, evK_some, evJ_nx, evJ_rt, evJ_ex, evB_nx, evB_rt, evB_ex, evC2_bool, evS_and, evS_or, evS_tf, evS_ft, ev_t, ev_s, ev_c, evalOp, bin_add, bin_sub, bin_mul, bin_eql, bin_neq, bin_lss, bin_leq, bin_gtr, bin_geq, sbin_eql, sbin_neq, b8, List.map_cons, List.map_nil, PV.rens, PV.ren, if_true, if_false, Bool.false_eq_true, reduceIte, Nat.reduceAdd, Nat.reduceSub, Nat.reduceMul, Nat.reduceEqDiff, Nat.reduceLeDiff, Int.reduceLE, Int.reduceLT, Int.reduceEq, Int.reduceToNat, Int.reduceAdd, Int.reduceSub, Int.reduceNeg, decide_true, decide_false, Bool.not_true, Bool.not_false, Bool.true_and, Bool.false_and, Bool.and_true, Bool.and_false, Bool.or_true, Bool.true_or, Bool.or_false, Bool.false_or, and_self, and_true, true_and, Nat.le_refl, Nat.zero_add, Nat.mul_one, Nat.one_ne_zero, Nat.zero_le, highP, lowP, Option.map_some, Option.map_none, List.drop_zero, List.take_zero, List.length_cons, List.length_nil, List.nil_append, List.append_nil, List.cons_append, fillP, PV.cells?, PV.one, PV.cleans, PV.clean, PV.of?, List.all_cons, List.all_nil, List.take_succ_cons, List.drop_succ_cons, Bool.and_self, Int.natCast_nonneg, Int.toNat_natCast, Int.toNat_zero, PV.of?, Tk.ren, tailP, evL_loop, or_true, true_or, Nat.zero_lt_one, Nat.sub_zero, List.getElem?_cons_zero, List.getElem?_cons_succ, List.set_cons_zero, List.set_cons_succ, List.take_length, hc10, hc12, hp, hwn, ← g1, g2']
      rfl
  · simp only [decide_eq_false g1, Bool.false_and, Bool.false_eq_true, if_false]
    refine fin_bool (k := 0) (F := l35) rfl rfl rfl rfl rfl ?_ h (Nat.le_refl _) hpl hql
    show evL T 0 q35 _ _ = _
    unfold q35
    rw [evL_op, bx (by rfl) x1 x2, evK_some]
    simp only [evL_op, evL_sel, evL_nx, evL_exit, evL_ret, evL_join, evL_block, evL_cond, evK_some, evJ_nx, evJ_rt, evJ_ex, evB_nx, evB_rt, evB_ex, evC2_bool, evS_and, evS_or, evS_tf, evS_ft, ev_t, ev_s, ev_c, evalOp, bin_add, bin_sub, bin_mul, bin_eql, bin_neq, bin_lss, bin_leq, bin_gtr, bin_geq, sbin_eql, sbin_neq, b8, List.map_cons, List.map_nil, PV.rens, PV.ren, if_true, if_false, Bool.false_eq_true, reduceIte, Nat.reduceAdd, Nat.reduceSub, Nat.reduceMul, Nat.reduceEqDiff, Nat.reduceLeDiff, Int.reduceLE, Int.reduceLT, Int.reduceEq, Int.reduceToNat, Int.reduceAdd, Int.reduceSub, Int.reduceNeg, decide_true, decide_false, Bool.not_true, Bool.not_false, Bool.true_and, Bool.false_and, Bool.and_true, Bool.and_false, Bool.or_true, Bool.true_or, Bool.or_false, Bool.false_or, and_self, and_true, true_and, Nat.le_refl, Nat.zero_add, Nat.mul_one, Nat.one_ne_zero, Nat.zero_le, highP, lowP, Option.map_some, Option.map_none, List.drop_zero, List.take_zero, List.length_cons, List.length_nil, List.nil_append, List.append_nil, List.cons_append, fillP, PV.cells?, PV.one, PV.cleans, PV.clean, PV.of?, List.all_cons, List.all_nil, List.take_succ_cons, List.drop_succ_cons, Bool.and_self, Int.natCast_nonneg, Int.toNat_natCast, Int.toNat_zero, PV.of?, Tk.ren, tailP, evL_loop, or_true, true_or, Nat.zero_lt_one, Nat.sub_zero, List.getElem?_cons_zero, List.getElem?_cons_succ, List.set_cons_zero, List.set_cons_succ, List.take_length, hc10, hc12, hp, hw, g1]
    rfl
end
end Go.Proofs.YtnljpfjoboafoaaDoor.Tab

namespace Go.Proofs.YtnljpfjoboafoaaDoor.Tab
set_option linter.all false
open Go Go.RowKit Go.Proofs.YtnljpfjoboafoaaDoor.Ev
def mailOk (s : Spl) (r : Rc) : Bool := decide (r.id = s.items.length + 1) && !decide ((60 : Int) ≤ s.items.length) && !decide (r.origin < 0) && !decide (1 < r.origin) && soleM r.mail && !decide (r.mail.tm < 0) && !decide (1099511627776 < r.mail.tm)
def mailI (r : Rc) : Itm := ⟨r.id, r.mail, if r.origin = 0 then 3 else 1, 0⟩
def mailS (s : Spl) (r : Rc) : Option Spl := if mailOk s r = true then some { s with items := s.items ++ [mailI r] } else none
def Shorts (r : Rc) : Prop := ShortP r.mail.fr ∧ ∀ p ∈ r.mail.rcp, ShortP p
theorem RowAt.full {H : Hp} {sz n : Nat} {x : PV} {cs : List PV} (h : RowAt H sz x cs n) (hl : cs.length = n * sz) :
    (n = 0 ∧ x = .sl .nil 0 n cs) ∨ (n = 0 ∧ ∃ k z, x = .sl (.tok k) z n cs ∧ (z = sz ∨ z = 0) ∧ H[k]? = some .tok) ∨ (0 < n ∧ ∃ k, x = .row k 0 sz n ∧ H[k]? = some (.cells cs)) := by
  rcases h with ⟨h0, rfl⟩ | ⟨h0, k, z, rfl, hz, hk⟩ | h
  · subst h0
    obtain rfl : cs = [] := List.eq_nil_of_length_eq_zero (by omega)
    exact .inl ⟨rfl, rfl⟩
  · subst h0
    obtain rfl : cs = [] := List.eq_nil_of_length_eq_zero (by omega)
    exact .inr (.inl ⟨rfl, k, z, rfl, hz, hk⟩)
  · exact .inr (.inr h)
section
variable {H : Hp} {q p : Nat} {s : Spl} {a b c d : PV}
theorem T_mailR {r : Rc} {cs : List PV} (h : SH H q p s a b c d) (hr : RecR r cs) (hf : Fits r) (hsh : Shorts r) (hl : s.items.length ≤ 1000000) :
    ∃ H', T 34 [.ptr p 0, .agg cs] H = some (.bool (mailS s r).isSome, H') ∧ SHx H' q p ((mailS s r).getD s) ∧ H.length ≤ H'.length := by
  obtain ⟨x1, x2, x3⟩ := hr.box
  have hlen : cs.length = 15 := by obtain ⟨ra, rb, rc, rd, rfl, _⟩ := hr; rfl
  have htk : cs.take 15 = cs := List.take_of_length_le (by omega)
  have hc9 : (cs.drop 9).take 1 = [.int .i64 r.id] := by obtain ⟨ra, rb, rc, rd, rfl, _⟩ := hr; rfl
  have hc11 : (cs.drop 11).take 1 = [.int .i64 r.origin] := by obtain ⟨ra, rb, rc, rd, rfl, _⟩ := hr; rfl
  have hc8 : (cs.drop 8).take 1 = [.int .i64 r.mail.tm] := by obtain ⟨ra, rb, rc, rd, rfl, _⟩ := hr; rfl
  obtain ⟨mcs, hmc, hM⟩ : ∃ mcs, (cs.drop 1).take 8 = mcs ∧ MalR r.mail mcs := by
    obtain ⟨ra, rb, rc, rd, rfl, h1, h2, _⟩ := hr
    exact ⟨_, rfl, ra, rb, rfl, h1, h2⟩
  have hml : mcs.length = 8 := by obtain ⟨_, _, rfl, _⟩ := hM; rfl
  have y3 := hM.box.2.2
  have c48 := T_sole hM hf.1 hf.2.1 hsh
  obtain ⟨tw, Ht, c27, htw⟩ := T_twin hr hf
  have hpl := h.plt
  have hql := h.qlt
  have hp := h.at_
  unfold cellS at hp
  have hw : IntKind.i64.wrap ((s.items.length : Int) + 1) = (s.items.length : Int) + 1 := wr (by omega) (by omega)
  have hD : (!decide (r.id = (s.items.length : Int) + 1) || decide ((60 : Int) ≤ s.items.length) || decide (r.origin < 0) || decide (1 < r.origin) || !soleM r.mail || decide (r.mail.tm < 0) || decide (1099511627776 < r.mail.tm)) = !mailOk s r := by
    unfold mailOk
    simp only [Bool.not_and, Bool.not_not]
  have hprt : ((rC r).drop 1).take 8 = mC r.mail := rfl
  unfold mailS
  cases hok : mailOk s r with
  | false =>
    rw [hok] at hD
    simp only [Bool.false_eq_true, if_false]
    refine fin_bool (k := 0) (F := l34) rfl rfl rfl rfl rfl ?_ h (Nat.le_refl _) hpl hql
    show evL T 0 q34 _ _ = _
    unfold q34
    rw [evL_op, bx (by rfl) x1 x2, evK_some]
    rcases h.ra.full (iCs_len _) with ⟨h0, rfl⟩ | ⟨h0, k, z, rfl, hz, hk⟩ | ⟨h0, k, rfl, hk⟩ <;>
    · simp only [evL_op, evL_sel, evL_nx, evL_exit, evL_ret, evL_join, evL_block, evL_cond, evK_some, evJ_nx, evJ_rt, evJ_ex, evB_nx, evB_rt, evB_ex, evC2_bool, evS_and, evS_or, evS_tf, evS_ft, ev_t, ev_s, ev_c, evalOp, bin_add, bin_sub, bin_mul, bin_eql, bin_neq, bin_lss, bin_leq, bin_gtr, bin_geq, sbin_eql, sbin_neq, b8, List.map_cons, List.map_nil, PV.rens, PV.ren, if_true, if_false, Bool.false_eq_true, reduceIte, Nat.reduceAdd, Nat.reduceSub, Nat.reduceMul, Nat.reduceEqDiff, Nat.reduceLeDiff, Int.reduceLE, Int.reduceLT, Int.reduceEq, Int.reduceToNat, Int.reduceAdd, Int.reduceSub, Int.reduceNeg, decide_true, decide_false, Bool.not_true, Bool.not_false, Bool.true_and, Bool.false_and, Bool.and_true, Bool.and_false, Bool.or_true, Bool.true_or, Bool.or_false, Bool.false_or, and_self, and_true, true_and, Nat.le_refl, Nat.zero_add, Nat.mul_one, Nat.one_ne_zero, Nat.zero_le, highP, lowP, Option.map_some, Option.map_none, List.drop_zero, List.take_zero, List.length_cons, List.length_nil, List.nil_append, List.append_nil, List.cons_append, fillP, PV.cells?, PV.one, PV.cleans, PV.clean, PV.of?, List.all_cons, List.all_nil, List.take_succ_cons, List.drop_succ_cons, Bool.and_self, Int.natCast_nonneg, Int.toNat_natCast, Int.toNat_zero, PV.of?, Tk.ren, tailP, evL_loop, or_true, true_or, Nat.zero_lt_one, Nat.sub_zero, List.getElem?_cons_zero, List.getElem?_cons_succ, List.set_cons_zero, List.set_cons_succ, List.take_length, hc9, hc11, hc8, hmc, hml, y3, c48, hp, hw, hD]
      rfl
  | true =>
    rw [hok] at hD
    simp only [if_true]
    have hl60 : s.items.length < 60 := by
      unfold mailOk at hok
      simp only [Bool.and_eq_true, Bool.not_eq_true', decide_eq_true_eq, decide_eq_false_iff_not] at hok
      omega
    have hrm : (s.items.length + 1) * 144 ≤ roomMax := by unfold roomMax; omega
    have hrm1 : 1 * 144 ≤ roomMax := by decide
    have hap : iCs (s.items ++ [mailI r]) = iCs s.items ++ iC (mailI r) := by simp [iCs]
    have hnl : (iCs s.items).length = s.items.length * 11 := iCs_len _
    have hone := iCs_one s.items
    have hlen1 : (s.items ++ [mailI r]).length = s.items.length + 1 := by simp
    have fin : ∀ H2 : Hp, H2.length = H.length → (∀ k, k < H.length → k ∉ a.toks → H2[k]? = H[k]?) → evL T 0 q34 [.ptr p 0, .agg cs] H = some (.rt, [.bool true], (H2 ++ [Ob.cells (iCs s.items ++ iC (mailI r))]).set p (.cells (cellS (.row H.length 0 11 (s.items.length + 1)) b c d { s with items := s.items ++ [mailI r] }))) → ∃ H', T 34 [.ptr p 0, .agg cs] H = some (.bool true, H') ∧ SHx H' q p { s with items := s.items ++ [mailI r] } ∧ H.length ≤ H'.length := by
      intro H2 e1 e2 e3
      have hS : SH ((H2 ++ [Ob.cells (iCs s.items ++ iC (mailI r))]).set p (.cells (cellS (.row H.length 0 11 (s.items.length + 1)) b c d { s with items := s.items ++ [mailI r] }))) q p { s with items := s.items ++ [mailI r] } (.row H.length 0 11 (s.items ++ [mailI r]).length) b c d :=
        h.swap_a (j := H.length) (s' := { s with items := s.items ++ [mailI r] }) rfl rfl rfl (fun k hk hkb hkp => by rw [List.getElem?_set_ne hkp.symm, List.getElem?_append_left (by omega), e2 k hk hkb]) (by rw [hlen1]; exact List.getElem?_set_self (by simp; omega)) (Nat.le_refl _) (by rw [List.getElem?_set_ne (by omega), hap, ← e1]; simp) (by simp)
      exact fin_bool (F := l34) rfl rfl rfl rfl rfl e3 hS (by simp; omega) hpl hql
    have fr : iC (mailI r) = [.int .i64 r.id, .bool r.mail.fr.n, .str r.mail.fr.l, .str r.mail.fr.d, psP r.mail.rcp, sl8 r.mail.bd, .bool r.mail.q, .str r.mail.helo, .int .i64 r.mail.tm, .int .i64 (if r.origin = 0 then 3 else 1), .int .i64 0] := rfl
    simp only [psP, sl8] at fr
    rcases h.ra.full (iCs_len _) with ⟨h0, rfl⟩ | ⟨h0, k, z, rfl, hz, hk⟩ | ⟨h0, k, rfl, hk⟩
    · have hs0 : iCs s.items = [] := by rw [List.eq_nil_of_length_eq_zero h0]; rfl
      refine fin H rfl (fun _ _ _ => rfl) ?_
      have hpa : (H ++ [Ob.cells (iCs s.items ++ iC (mailI r))])[p]? = _ := (List.getElem?_append_left hpl).trans hp
      rw [hs0, List.nil_append] at hpa ⊢
      rw [hs0] at hp
      rw [h0] at hw hD
      unfold q34
      rw [evL_op, bx (by rfl) x1 x2, evK_some]
      by_cases ho : r.origin = 0
      · rw [if_pos ho] at fr
        simp only [ho, Int.reduceLT, decide_false, Bool.or_false, Bool.not_true, show ¬ (0 : Int) < 0 by omega] at hD
        rw [fr] at hpa ⊢
        simp only [evL_op, evL_sel, evL_nx, evL_exit, evL_ret, evL_join, evL_block, evL_cond, evK_some, evJ_nx, evJ_rt, evJ_ex, evB_nx, evB_rt, evB_ex, evC2_bool, evS_and, evS_or, evS_tf, evS_ft, ev_t, ev_s, ev_c, evalOp, bin_add, bin_sub, bin_mul, bin_eql, bin_neq, bin_lss, bin_leq, bin_gtr, bin_geq, sbin_eql, sbin_neq, b8, List.map_cons, List.map_nil, PV.rens, PV.ren, if_true, if_false, Bool.false_eq_true, reduceIte, Nat.reduceAdd, Nat.reduceSub, Nat.reduceMul, Nat.reduceEqDiff, Nat.reduceLeDiff, Int.reduceLE, Int.reduceLT, Int.reduceEq, Int.reduceToNat, Int.reduceAdd, Int.reduceSub, Int.reduceNeg, decide_true, decide_false, Bool.not_true, Bool.not_false, Bool.true_and, Bool.false_and, Bool.and_true, Bool.and_false, Bool.or_true, Bool.true_or, Bool.or_false, Bool.false_or, and_self, and_true, true_and, Nat.le_refl, Nat.zero_add, Nat.mul_one, Nat.one_ne_zero, Nat.zero_le, highP, lowP, Option.map_some, Option.map_none, List.drop_zero, List.take_zero, List.length_cons, List.length_nil, List.nil_append, List.append_nil, List.cons_append, fillP, PV.cells?, PV.one, PV.cleans, PV.clean, PV.of?, List.all_cons, List.all_nil, List.take_succ_cons, List.drop_succ_cons, Bool.and_self, Int.natCast_nonneg, Int.toNat_natCast, Int.toNat_zero, PV.of?, Tk.ren, tailP, evL_loop, or_true, true_or, Nat.zero_lt_one, Nat.sub_zero, List.getElem?_cons_zero, List.getElem?_cons_succ, List.set_cons_zero, List.set_cons_succ, List.take_length, q34_0, hc9, hc11, hc8, hmc, hml, hlen, htk, y3, x3, c48, c27, htw, hprt, mC, psP, sl8, hp, hw, hD, ho, h0, tailR, hrm1, hpa, cellS]
      · rw [if_neg ho] at fr
        rw [fr] at hpa ⊢
        simp only [evL_op, evL_sel, evL_nx, evL_exit, evL_ret, evL_join, evL_block, evL_cond, evK_some, evJ_nx, evJ_rt, evJ_ex, evB_nx, evB_rt, evB_ex, evC2_bool, evS_and, evS_or, evS_tf, evS_ft, ev_t, ev_s, ev_c, evalOp, bin_add, bin_sub, bin_mul, bin_eql, bin_neq, bin_lss, bin_leq, bin_gtr, bin_geq, sbin_eql, sbin_neq, b8, List.map_cons, List.map_nil, PV.rens, PV.ren, if_true, if_false, Bool.false_eq_true, reduceIte, Nat.reduceAdd, Nat.reduceSub, Nat.reduceMul, Nat.reduceEqDiff, Nat.reduceLeDiff, Int.reduceLE, Int.reduceLT, Int.reduceEq, Int.reduceToNat, Int.reduceAdd, Int.reduceSub, Int.reduceNeg, decide_true, decide_false, Bool.not_true, Bool.not_false, Bool.true_and, Bool.false_and, Bool.and_true, Bool.and_false, Bool.or_true, Bool.true_or, Bool.or_false, Bool.false_or, and_self, and_true, true_and, Nat.le_refl, Nat.zero_add, Nat.mul_one, Nat.one_ne_zero, Nat.zero_le, highP, lowP, Option.map_some, Option.map_none, List.drop_zero, List.take_zero, List.length_cons, List.length_nil, List.nil_append, List.append_nil, List.cons_append, fillP, PV.cells?, PV.one, PV.cleans, PV.clean, PV.of?, List.all_cons, List.all_nil, List.take_succ_cons, List.drop_succ_cons, Bool.and_self, Int.natCast_nonneg, Int.toNat_natCast, Int.toNat_zero, PV.of?, Tk.ren, tailP, evL_loop, or_true, true_or, Nat.zero_lt_one, Nat.sub_zero, List.getElem?_cons_zero, List.getElem?_cons_succ, List.set_cons_zero, List.set_cons_succ, List.take_length, q34_0, hc9, hc11, hc8, hmc, hml, hlen, htk, y3, x3, c48, c27, htw, hprt, mC, psP, sl8, hp, hw, hD, ho, h0, tailR, hrm1, hpa, cellS]
    · have hs0 : iCs s.items = [] := by rw [List.eq_nil_of_length_eq_zero h0]; rfl
      have hkp : k ≠ p := (h.sep.2.1 k (by simp [PV.toks])).1
      refine fin (H.set k .dead) (by simp) (fun j _ hj => List.getElem?_set_ne (fun e => hj (by simp [PV.toks, e]))) ?_
      have hpa : (H.set k .dead ++ [Ob.cells (iCs s.items ++ iC (mailI r))])[p]? = _ := (List.getElem?_append_left (by simpa using hpl)).trans ((List.getElem?_set_ne hkp).trans hp)
      rw [hs0, List.nil_append] at hpa ⊢
      rw [hs0] at hp
      rw [h0] at hw hD
      unfold q34
      rw [evL_op, bx (by rfl) x1 x2, evK_some]
      by_cases ho : r.origin = 0
      · rw [if_pos ho] at fr
        simp only [ho, Int.reduceLT, decide_false, Bool.or_false, Bool.not_true, show ¬ (0 : Int) < 0 by omega] at hD
        rw [fr] at hpa ⊢
        simp only [evL_op, evL_sel, evL_nx, evL_exit, evL_ret, evL_join, evL_block, evL_cond, evK_some, evJ_nx, evJ_rt, evJ_ex, evB_nx, evB_rt, evB_ex, evC2_bool, evS_and, evS_or, evS_tf, evS_ft, ev_t, ev_s, ev_c, evalOp, bin_add, bin_sub, bin_mul, bin_eql, bin_neq, bin_lss, bin_leq, bin_gtr, bin_geq, sbin_eql, sbin_neq, b8, List.map_cons, List.map_nil, PV.rens, PV.ren, if_true, if_false, Bool.false_eq_true, reduceIte, Nat.reduceAdd, Nat.reduceSub, Nat.reduceMul, Nat.reduceEqDiff, Nat.reduceLeDiff, Int.reduceLE, Int.reduceLT, Int.reduceEq, Int.reduceToNat, Int.reduceAdd, Int.reduceSub, Int.reduceNeg, decide_true, decide_false, Bool.not_true, Bool.not_false, Bool.true_and, Bool.false_and, Bool.and_true, Bool.and_false, Bool.or_true, Bool.true_or, Bool.or_false, Bool.false_or, and_self, and_true, true_and, Nat.le_refl, Nat.zero_add, Nat.mul_one, Nat.one_ne_zero, Nat.zero_le, highP, lowP, Option.map_some, Option.map_none, List.drop_zero, List.take_zero, List.length_cons, List.length_nil, List.nil_append, List.append_nil, List.cons_append, fillP, PV.cells?, PV.one, PV.cleans, PV.clean, PV.of?, List.all_cons, List.all_nil, List.take_succ_cons, List.drop_succ_cons, Bool.and_self, Int.natCast_nonneg, Int.toNat_natCast, Int.toNat_zero, PV.of?, Tk.ren, tailP, evL_loop, or_true, true_or, Nat.zero_lt_one, Nat.sub_zero, List.getElem?_cons_zero, List.getElem?_cons_succ, List.set_cons_zero, List.set_cons_succ, List.take_length, q34_0, hc9, hc11, hc8, hmc, hml, hlen, htk, y3, x3, c48, c27, htw, hprt, mC, psP, sl8, hp, hw, hD, ho, h0, tailR, hrm1, hpa, hk, hz, cellS]
      · rw [if_neg ho] at fr
        rw [fr] at hpa ⊢
        simp only [evL_op, evL_sel, evL_nx, evL_exit, evL_ret, evL_join, evL_block, evL_cond, evK_some, evJ_nx, evJ_rt, evJ_ex, evB_nx, evB_rt, evB_ex, evC2_bool, evS_and, evS_or, evS_tf, evS_ft, ev_t, ev_s, ev_c, evalOp, bin_add, bin_sub, bin_mul, bin_eql, bin_neq, bin_lss, bin_leq, bin_gtr, bin_geq, sbin_eql, sbin_neq, b8, List.map_cons, List.map_nil, PV.rens, PV.ren, if_true, if_false, Bool.false_eq_true, reduceIte, Nat.reduceAdd, Nat.reduceSub, Nat.reduceMul, Nat.reduceEqDiff, Nat.reduceLeDiff, Int.reduceLE, Int.reduceLT, Int.reduceEq, Int.reduceToNat, Int.reduceAdd, Int.reduceSub, Int.reduceNeg, decide_true, decide_false, Bool.not_true, Bool.not_false, Bool.true_and, Bool.false_and, Bool.and_true, Bool.and_false, Bool.or_true, Bool.true_or, Bool.or_false, Bool.false_or, and_self, and_true, true_and, Nat.le_refl, Nat.zero_add, Nat.mul_one, Nat.one_ne_zero, Nat.zero_le, highP, lowP, Option.map_some, Option.map_none, List.drop_zero, List.take_zero, List.length_cons, List.length_nil, List.nil_append, List.append_nil, List.cons_append, fillP, PV.cells?, PV.one, PV.cleans, PV.clean, PV.of?, List.all_cons, List.all_nil, List.take_succ_cons, List.drop_succ_cons, Bool.and_self, Int.natCast_nonneg, Int.toNat_natCast, Int.toNat_zero, PV.of?, Tk.ren, tailP, evL_loop, or_true, true_or, Nat.zero_lt_one, Nat.sub_zero, List.getElem?_cons_zero, List.getElem?_cons_succ, List.set_cons_zero, List.set_cons_succ, List.take_length, q34_0, hc9, hc11, hc8, hmc, hml, hlen, htk, y3, x3, c48, c27, htw, hprt, mC, psP, sl8, hp, hw, hD, ho, h0, tailR, hrm1, hpa, hk, hz, cellS]
    · have hkp : k ≠ p := (h.sep.2.1 k (by simp [PV.toks])).1
      refine fin (H.set k .dead) (by simp) (fun j _ hj => List.getElem?_set_ne (fun e => hj (by simp [PV.toks, e]))) ?_
      have hpa : (H.set k .dead ++ [Ob.cells (iCs s.items ++ iC (mailI r))])[p]? = _ := (List.getElem?_append_left (by simpa using hpl)).trans ((List.getElem?_set_ne hkp).trans hp)
      unfold q34
      rw [evL_op, bx (by rfl) x1 x2, evK_some]
      by_cases ho : r.origin = 0
      · rw [if_pos ho] at fr
        simp only [ho, Int.reduceLT, decide_false, Bool.or_false, Bool.not_true, show ¬ (0 : Int) < 0 by omega] at hD
        rw [fr] at hpa ⊢
        simp only [evL_op, evL_sel, evL_nx, evL_exit, evL_ret, evL_join, evL_block, evL_cond, evK_some, evJ_nx, evJ_rt, evJ_ex, evB_nx, evB_rt, evB_ex, evC2_bool, evS_and, evS_or, evS_tf, evS_ft, ev_t, ev_s, ev_c, evalOp, bin_add, bin_sub, bin_mul, bin_eql, bin_neq, bin_lss, bin_leq, bin_gtr, bin_geq, sbin_eql, sbin_neq, b8, List.map_cons, List.map_nil, PV.rens, PV.ren, if_true, if_false, Bool.false_eq_true, reduceIte, Nat.reduceAdd, Nat.reduceSub, Nat.reduceMul, Nat.reduceEqDiff, Nat.reduceLeDiff, Int.reduceLE, Int.reduceLT, Int.reduceEq, Int.reduceToNat, Int.reduceAdd, Int.reduceSub, Int.reduceNeg, decide_true, decide_false, Bool.not_true, Bool.not_false, Bool.true_and, Bool.false_and, Bool.and_true, Bool.and_false, Bool.or_true, Bool.true_or, Bool.or_false, Bool.false_or, and_self, and_true, true_and, Nat.le_refl, Nat.zero_add, Nat.mul_one, Nat.one_ne_zero, Nat.zero_le, highP, lowP, Option.map_some, Option.map_none, List.drop_zero, List.take_zero, List.length_cons, List.length_nil, List.nil_append, List.append_nil, List.cons_append, fillP, PV.cells?, PV.one, PV.cleans, PV.clean, PV.of?, List.all_cons, List.all_nil, List.take_succ_cons, List.drop_succ_cons, Bool.and_self, Int.natCast_nonneg, Int.toNat_natCast, Int.toNat_zero, PV.of?, Tk.ren, tailP, evL_loop, or_true, true_or, Nat.zero_lt_one, Nat.sub_zero, List.getElem?_cons_zero, List.getElem?_cons_succ, List.set_cons_zero, List.set_cons_succ, List.take_length, q34_0, hc9, hc11, hc8, hmc, hml, hlen, htk, y3, x3, c48, c27, htw, hprt, mC, psP, sl8, hp, hw, hD, ho, tailR, hrm, hnl, hone, hpa, hk, cellS]
      · rw [if_neg ho] at fr
        rw [fr] at hpa ⊢
        simp only [evL_op, evL_sel, evL_nx, evL_exit, evL_ret, evL_join, evL_block, evL_cond, evK_some, evJ_nx, evJ_rt, evJ_ex, evB_nx, evB_rt, evB_ex, evC2_bool, evS_and, evS_or, evS_tf, evS_ft, ev_t, ev_s, ev_c, evalOp, bin_add, bin_sub, bin_mul, bin_eql, bin_neq, bin_lss, bin_leq, bin_gtr, bin_geq, sbin_eql, sbin_neq, b8, List.map_cons, List.map_nil, PV.rens, PV.ren, if_true, if_false, Bool.false_eq_true, reduceIte, Nat.reduceAdd, Nat.reduceSub, Nat.reduceMul, Nat.reduceEqDiff, Nat.reduceLeDiff, Int.reduceLE, Int.reduceLT, Int.reduceEq, Int.reduceToNat, Int.reduceAdd, Int.reduceSub, Int.reduceNeg, decide_true, decide_false, Bool.not_true, Bool.not_false, Bool.true_and, Bool.false_and, Bool.and_true, Bool.and_false, Bool.or_true, Bool.true_or, Bool.or_false, Bool.false_or, and_self, and_true, true_and, Nat.le_refl, Nat.zero_add, Nat.mul_one, Nat.one_ne_zero, Nat.zero_le, highP, lowP, Option.map_some, Option.map_none, List.drop_zero, List.take_zero, List.length_cons, List.length_nil, List.nil_append, List.append_nil, List.cons_append, fillP, PV.cells?, PV.one, PV.cleans, PV.clean, PV.of?, List.all_cons, List.all_nil, List.take_succ_cons, List.drop_succ_cons, Bool.and_self, Int.natCast_nonneg, Int.toNat_natCast, Int.toNat_zero, PV.of?, Tk.ren, tailP, evL_loop, or_true, true_or, Nat.zero_lt_one, Nat.sub_zero, List.getElem?_cons_zero, List.getElem?_cons_succ, List.set_cons_zero, List.set_cons_succ, List.take_length, q34_0, hc9, hc11, hc8, hmc, hml, hlen, htk, y3, x3, c48, c27, htw, hprt, mC, psP, sl8, hp, hw, hD, ho, tailR, hrm, hnl, hone, hpa, hk, cellS]
end
end Go.Proofs.YtnljpfjoboafoaaDoor.Tab

namespace Go.Proofs.YtnljpfjoboafoaaDoor.Tab
set_option linter.all false
open Go Go.RowKit Go.Proofs.YtnljpfjoboafoaaDoor.Ev
theorem wr64 {n : Int} (h1 : 0 ≤ n) (h2 : n ≤ 9223372036854775807) : IntKind.u64.wrap n = n := IntWalk.u64_in n ⟨h1, by omega⟩
theorem bin_half (m : Nat) : binP .shr (.int .u64 (m : Int)) (.int .u64 1) = some (.int .u64 ((m / 2 : Nat) : Int)) := by
  have h : ((m : Int)).fdiv 2 = ((m / 2 : Nat) : Int) := by rw [Int.fdiv_eq_ediv_of_nonneg _ (by decide)]; rfl
  show (if (1 : Int) < 0 then none else some (PV.int .u64 ((m : Int).fdiv (2 ^ Nat.min (1 : Int).toNat IntKind.u64.bits)))) = _
  rw [if_neg (by omega), show (2 : Int) ^ Nat.min (1 : Int).toNat IntKind.u64.bits = 2 from rfl, h]
theorem T_less (x y : Int) : T 58 [.int .i64 x, .int .i64 y] [] = some (.bool (decide (x < y)), []) := by
  have n1 : ∀ x : Int, T 70 [.int .i64 x] [] = some (.bool false, []) := fun x => by
    refine evT_of (k := 0) (F := l70) (H' := []) (e := [.bool false]) (l := [.bool false]) rfl rfl rfl ?_ rfl rfl
    show evL T 0 q70 _ _ = _
    simp only [q70, evL_op, evL_sel, evL_nx, evL_exit, evL_ret, evL_join, evL_block, evL_cond, evK_some, evJ_nx, evJ_rt, evJ_ex, evB_nx, evB_rt, evB_ex, evC2_bool, evS_and, evS_or, evS_tf, evS_ft, ev_t, ev_s, ev_c, evalOp, bin_add, bin_sub, bin_mul, bin_eql, bin_neq, bin_lss, bin_leq, bin_gtr, bin_geq, sbin_eql, sbin_neq, b8, List.map_cons, List.map_nil, PV.rens, PV.ren, if_true, if_false, Bool.false_eq_true, reduceIte, Nat.reduceAdd, Nat.reduceSub, Nat.reduceMul, Nat.reduceEqDiff, Nat.reduceLeDiff, Int.reduceLE, Int.reduceLT, Int.reduceEq, Int.reduceToNat, Int.reduceAdd, Int.reduceSub, Int.reduceNeg, decide_true, decide_false, Bool.not_true, Bool.not_false, Bool.true_and, Bool.false_and, Bool.and_true, Bool.and_false, Bool.or_true, Bool.true_or, Bool.or_false, Bool.false_or, and_self, and_true, true_and, Nat.le_refl, Nat.zero_add, Nat.mul_one, Nat.one_ne_zero, Nat.zero_le, highP, lowP, Option.map_some, Option.map_none, List.drop_zero, List.take_zero, List.length_cons, List.length_nil, List.nil_append, List.append_nil, List.cons_append, fillP, PV.cells?, PV.one, PV.cleans, PV.clean, PV.of?, List.all_cons, List.all_nil, List.take_succ_cons, List.drop_succ_cons, Bool.and_self, Int.natCast_nonneg, Int.toNat_natCast, Int.toNat_zero, PV.of?, Tk.ren, tailP, evL_loop, or_true, true_or, Nat.zero_lt_one, Nat.sub_zero, List.getElem?_cons_zero, List.getElem?_cons_succ, List.set_cons_zero, List.set_cons_succ, List.take_length]
  have c1 := n1 x
  have c2 := n1 y
  refine evT_of (k := 0) (F := l58) (H' := []) (e := [.bool (decide (x < y))]) (l := [.bool (decide (x < y))]) rfl rfl rfl ?_ rfl rfl
  show evL T 0 q58 _ _ = _
  simp only [q58, evL_op, evL_sel, evL_nx, evL_exit, evL_ret, evL_join, evL_block, evL_cond, evK_some, evJ_nx, evJ_rt, evJ_ex, evB_nx, evB_rt, evB_ex, evC2_bool, evS_and, evS_or, evS_tf, evS_ft, ev_t, ev_s, ev_c, evalOp, bin_add, bin_sub, bin_mul, bin_eql, bin_neq, bin_lss, bin_leq, bin_gtr, bin_geq, sbin_eql, sbin_neq, b8, List.map_cons, List.map_nil, PV.rens, PV.ren, if_true, if_false, Bool.false_eq_true, reduceIte, Nat.reduceAdd, Nat.reduceSub, Nat.reduceMul, Nat.reduceEqDiff, Nat.reduceLeDiff, Int.reduceLE, Int.reduceLT, Int.reduceEq, Int.reduceToNat, Int.reduceAdd, Int.reduceSub, Int.reduceNeg, decide_true, decide_false, Bool.not_true, Bool.not_false, Bool.true_and, Bool.false_and, Bool.and_true, Bool.and_false, Bool.or_true, Bool.true_or, Bool.or_false, Bool.false_or, and_self, and_true, true_and, Nat.le_refl, Nat.zero_add, Nat.mul_one, Nat.one_ne_zero, Nat.zero_le, highP, lowP, Option.map_some, Option.map_none, List.drop_zero, List.take_zero, List.length_cons, List.length_nil, List.nil_append, List.append_nil, List.cons_append, fillP, PV.cells?, PV.one, PV.cleans, PV.clean, PV.of?, List.all_cons, List.all_nil, List.take_succ_cons, List.drop_succ_cons, Bool.and_self, Int.natCast_nonneg, Int.toNat_natCast, Int.toNat_zero, PV.of?, Tk.ren, tailP, evL_loop, or_true, true_or, Nat.zero_lt_one, Nat.sub_zero, List.getElem?_cons_zero, List.getElem?_cons_succ, List.set_cons_zero, List.set_cons_succ, List.take_length, c1, c2]
def Up (l : List Int) : Prop := l.Pairwise (· < ·)
theorem Up.lt {l : List Int} (h : Up l) {i j : Nat} (hj : j < l.length) (hij : i < j) : l[i] < l[j] := List.pairwise_iff_getElem.1 h i j (by omega) hj hij
theorem T_bin (l : List Int) (y : Int) (hs : Up l) (hl : l.length ≤ 1000000) : ∃ (pos : Nat) (fb : Bool), T 51 [inP l, .int .i64 y] [] = some (.tup [.int .i64 pos, .bool fb], []) ∧ pos ≤ l.length ∧ (∀ k (hk : k < l.length), k < pos → l[k] < y) ∧ (∀ k (hk : k < l.length), pos ≤ k → y ≤ l[k]) := by
  obtain ⟨r, lp, pos, rfl, h1, h2, h3⟩ := loop_post (n := 0) (body := evL T (l.length + 2) q51_1) (σ := Nat × Nat) (fun σ => [inP l, .int .i64 y, .int .i64 l.length, .int .i64 σ.1, .int .i64 σ.2]) (fun _ => []) (fun σ => σ.2 - σ.1)
    (fun σ => σ.1 ≤ σ.2 ∧ σ.2 ≤ l.length ∧ (∀ k (hk : k < l.length), k < σ.1 → l[k] < y) ∧ (∀ k (hk : k < l.length), σ.2 ≤ k → y ≤ l[k]))
    (fun r => ∃ pos : Nat, r = (.ex 0, [inP l, .int .i64 y, .int .i64 l.length, .int .i64 pos], []) ∧ pos ≤ l.length ∧ (∀ k (hk : k < l.length), k < pos → l[k] < y) ∧ (∀ k (hk : k < l.length), pos ≤ k → y ≤ l[k])) (by
    rintro ⟨i, j⟩ ⟨h1, h2, h3, h4⟩
    dsimp only at h1 h2 h3 h4 ⊢
    by_cases hij : i < j
    · obtain ⟨h, hh⟩ : ∃ h, (i + j) / 2 = h := ⟨_, rfl⟩
      have hlt : h < l.length := by omega
      have f1 : (i : Int) < j := by omega
      have f2 : (h : Int) < l.length := by omega
      have w1 : IntKind.i64.wrap ((i : Int) + j) = ((i + j : Nat) : Int) := by rw [wr (by omega) (by omega)]; omega
      have w2 : IntKind.u64.wrap ((i + j : Nat) : Int) = ((i + j : Nat) : Int) := wr64 (by omega) (by omega)
      have w3 : IntKind.i64.wrap (h : Int) = (h : Int) := wr (by omega) (by omega)
      have w4 := evw1 (show h ≤ 1000000 by omega)
      have b1 := bin_half (i + j)
      rw [hh] at b1
      have c1 := ids_get hlt
      have c58 := T_less l[h] y
      by_cases hc : l[h] < y
      · rw [decide_eq_true hc] at c58
        refine .inr ⟨(h + 1, j), [inP l, .int .i64 y, .int .i64 l.length, .int .i64 ((h + 1 : Nat) : Int), .int .i64 j], [], ?_, rfl, ⟨by dsimp only; omega, h2, fun k hk hkh => ?_, h4⟩, by dsimp only; omega⟩
        · simp only [inP, q51_1, q51_0, evL_op, evL_sel, evL_nx, evL_exit, evL_ret, evL_join, evL_block, evL_cond, evK_some, evJ_nx, evJ_rt, evJ_ex, evB_nx, evB_rt, evB_ex, evC2_bool, evS_and, evS_or, evS_tf, evS_ft, ev_t, ev_s, ev_c, evalOp, bin_add, bin_sub, bin_mul, bin_eql, bin_neq, bin_lss, bin_leq, bin_gtr, bin_geq, sbin_eql, sbin_neq, b8, List.map_cons, List.map_nil, PV.rens, PV.ren, if_true, if_false, Bool.false_eq_true, reduceIte, Nat.reduceAdd, Nat.reduceSub, Nat.reduceMul, Nat.reduceEqDiff, Nat.reduceLeDiff, Int.reduceLE, Int.reduceLT, Int.reduceEq, Int.reduceToNat, Int.reduceAdd, Int.reduceSub, Int.reduceNeg, decide_true, decide_false, Bool.not_true, Bool.not_false, Bool.true_and, Bool.false_and, Bool.and_true, Bool.and_false, Bool.or_true, Bool.true_or, Bool.or_false, Bool.false_or, and_self, and_true, true_and, Nat.le_refl, Nat.zero_add, Nat.mul_one, Nat.one_ne_zero, Nat.zero_le, highP, lowP, Option.map_some, Option.map_none, List.drop_zero, List.take_zero, List.length_cons, List.length_nil, List.nil_append, List.append_nil, List.cons_append, fillP, PV.cells?, PV.one, PV.cleans, PV.clean, PV.of?, List.all_cons, List.all_nil, List.take_succ_cons, List.drop_succ_cons, Bool.and_self, Int.natCast_nonneg, Int.toNat_natCast, Int.toNat_zero, PV.of?, Tk.ren, tailP, evL_loop, or_true, true_or, Nat.zero_lt_one, Nat.sub_zero, List.getElem?_cons_zero, List.getElem?_cons_succ, List.set_cons_zero, List.set_cons_succ, List.take_length, f1, f2, w1, w2, w3, w4, b1, c1, c58]
        · rcases Nat.lt_or_ge k h with hk2 | hk2
          · exact Int.lt_trans (hs.lt hlt hk2) hc
          · obtain rfl : k = h := by dsimp only at hkh; omega
            exact hc
      · rw [decide_eq_false hc] at c58
        refine .inr ⟨(i, h), [inP l, .int .i64 y, .int .i64 l.length, .int .i64 i, .int .i64 h], [], ?_, rfl, ⟨by dsimp only; omega, by dsimp only; omega, h3, fun k hk hkh => ?_⟩, by dsimp only; omega⟩
        · simp only [inP, q51_1, q51_0, evL_op, evL_sel, evL_nx, evL_exit, evL_ret, evL_join, evL_block, evL_cond, evK_some, evJ_nx, evJ_rt, evJ_ex, evB_nx, evB_rt, evB_ex, evC2_bool, evS_and, evS_or, evS_tf, evS_ft, ev_t, ev_s, ev_c, evalOp, bin_add, bin_sub, bin_mul, bin_eql, bin_neq, bin_lss, bin_leq, bin_gtr, bin_geq, sbin_eql, sbin_neq, b8, List.map_cons, List.map_nil, PV.rens, PV.ren, if_true, if_false, Bool.false_eq_true, reduceIte, Nat.reduceAdd, Nat.reduceSub, Nat.reduceMul, Nat.reduceEqDiff, Nat.reduceLeDiff, Int.reduceLE, Int.reduceLT, Int.reduceEq, Int.reduceToNat, Int.reduceAdd, Int.reduceSub, Int.reduceNeg, decide_true, decide_false, Bool.not_true, Bool.not_false, Bool.true_and, Bool.false_and, Bool.and_true, Bool.and_false, Bool.or_true, Bool.true_or, Bool.or_false, Bool.false_or, and_self, and_true, true_and, Nat.le_refl, Nat.zero_add, Nat.mul_one, Nat.one_ne_zero, Nat.zero_le, highP, lowP, Option.map_some, Option.map_none, List.drop_zero, List.take_zero, List.length_cons, List.length_nil, List.nil_append, List.append_nil, List.cons_append, fillP, PV.cells?, PV.one, PV.cleans, PV.clean, PV.of?, List.all_cons, List.all_nil, List.take_succ_cons, List.drop_succ_cons, Bool.and_self, Int.natCast_nonneg, Int.toNat_natCast, Int.toNat_zero, PV.of?, Tk.ren, tailP, evL_loop, or_true, true_or, Nat.zero_lt_one, Nat.sub_zero, List.getElem?_cons_zero, List.getElem?_cons_succ, List.set_cons_zero, List.set_cons_succ, List.take_length, f1, f2, w1, w2, w3, b1, c1, c58]
        · dsimp only at hkh
          rcases Nat.lt_or_ge h k with hk2 | hk2
          · exact Int.le_of_lt (Int.lt_of_le_of_lt (Int.not_lt.1 hc) (hs.lt hk hk2))
          · obtain rfl : k = h := by omega
            exact Int.not_lt.1 hc
    · obtain rfl : i = j := by omega
      have f1 : ¬ (i : Int) < i := by omega
      refine .inl ⟨_, ?_, ?_, i, rfl, h2, h3, h4⟩
      · simp only [inP, q51_1, evL_op, evL_sel, evL_nx, evL_exit, evL_ret, evL_join, evL_block, evL_cond, evK_some, evJ_nx, evJ_rt, evJ_ex, evB_nx, evB_rt, evB_ex, evC2_bool, evS_and, evS_or, evS_tf, evS_ft, ev_t, ev_s, ev_c, evalOp, bin_add, bin_sub, bin_mul, bin_eql, bin_neq, bin_lss, bin_leq, bin_gtr, bin_geq, sbin_eql, sbin_neq, b8, List.map_cons, List.map_nil, PV.rens, PV.ren, if_true, if_false, Bool.false_eq_true, reduceIte, Nat.reduceAdd, Nat.reduceSub, Nat.reduceMul, Nat.reduceEqDiff, Nat.reduceLeDiff, Int.reduceLE, Int.reduceLT, Int.reduceEq, Int.reduceToNat, Int.reduceAdd, Int.reduceSub, Int.reduceNeg, decide_true, decide_false, Bool.not_true, Bool.not_false, Bool.true_and, Bool.false_and, Bool.and_true, Bool.and_false, Bool.or_true, Bool.true_or, Bool.or_false, Bool.false_or, and_self, and_true, true_and, Nat.le_refl, Nat.zero_add, Nat.mul_one, Nat.one_ne_zero, Nat.zero_le, highP, lowP, Option.map_some, Option.map_none, List.drop_zero, List.take_zero, List.length_cons, List.length_nil, List.nil_append, List.append_nil, List.cons_append, fillP, PV.cells?, PV.one, PV.cleans, PV.clean, PV.of?, List.all_cons, List.all_nil, List.take_succ_cons, List.drop_succ_cons, Bool.and_self, Int.natCast_nonneg, Int.toNat_natCast, Int.toNat_zero, PV.of?, Tk.ren, tailP, evL_loop, or_true, true_or, Nat.zero_lt_one, Nat.sub_zero, List.getElem?_cons_zero, List.getElem?_cons_succ, List.set_cons_zero, List.set_cons_succ, List.take_length, f1]
      · simp) (l.length + 2) (0, l.length) [inP l, .int .i64 y, .int .i64 l.length, .int .i64 (0 : Nat), .int .i64 l.length] [] rfl ⟨Nat.zero_le _, Nat.le_refl _, fun k hk h => absurd h (Nat.not_lt_zero _), fun k hk h => by dsimp only at h; omega⟩ (by dsimp only; omega)
  have key : ∃ fb : Bool, evL T (l.length + 2) q51_2 [inP l, .int .i64 y, .int .i64 l.length, .int .i64 pos] [] = some (.rt, [.int .i64 pos, .bool fb], []) := by
    have n1 : ∀ x : Int, T 59 [.int .i64 x] [] = some (.bool false, []) := fun x => by
      refine evT_of (k := 0) (F := l59) (H' := []) (e := [.bool false]) (l := [.bool false]) rfl rfl rfl ?_ rfl rfl
      show evL T 0 q59 _ _ = _
      simp only [q59, evL_op, evL_sel, evL_nx, evL_exit, evL_ret, evL_join, evL_block, evL_cond, evK_some, evJ_nx, evJ_rt, evJ_ex, evB_nx, evB_rt, evB_ex, evC2_bool, evS_and, evS_or, evS_tf, evS_ft, ev_t, ev_s, ev_c, evalOp, bin_add, bin_sub, bin_mul, bin_eql, bin_neq, bin_lss, bin_leq, bin_gtr, bin_geq, sbin_eql, sbin_neq, b8, List.map_cons, List.map_nil, PV.rens, PV.ren, if_true, if_false, Bool.false_eq_true, reduceIte, Nat.reduceAdd, Nat.reduceSub, Nat.reduceMul, Nat.reduceEqDiff, Nat.reduceLeDiff, Int.reduceLE, Int.reduceLT, Int.reduceEq, Int.reduceToNat, Int.reduceAdd, Int.reduceSub, Int.reduceNeg, decide_true, decide_false, Bool.not_true, Bool.not_false, Bool.true_and, Bool.false_and, Bool.and_true, Bool.and_false, Bool.or_true, Bool.true_or, Bool.or_false, Bool.false_or, and_self, and_true, true_and, Nat.le_refl, Nat.zero_add, Nat.mul_one, Nat.one_ne_zero, Nat.zero_le, highP, lowP, Option.map_some, Option.map_none, List.drop_zero, List.take_zero, List.length_cons, List.length_nil, List.nil_append, List.append_nil, List.cons_append, fillP, PV.cells?, PV.one, PV.cleans, PV.clean, PV.of?, List.all_cons, List.all_nil, List.take_succ_cons, List.drop_succ_cons, Bool.and_self, Int.natCast_nonneg, Int.toNat_natCast, Int.toNat_zero, PV.of?, Tk.ren, tailP, evL_loop, or_true, true_or, Nat.zero_lt_one, Nat.sub_zero, List.getElem?_cons_zero, List.getElem?_cons_succ, List.set_cons_zero, List.set_cons_succ, List.take_length]
    by_cases hp : pos < l.length
    · have f1 : (pos : Int) < l.length := by omega
      have c1 := ids_get hp
      have c59 := n1 l[pos]
      by_cases hc : l[pos] = y
      · refine ⟨true, ?_⟩
        simp only [inP, q51_2, evL_op, evL_sel, evL_nx, evL_exit, evL_ret, evL_join, evL_block, evL_cond, evK_some, evJ_nx, evJ_rt, evJ_ex, evB_nx, evB_rt, evB_ex, evC2_bool, evS_and, evS_or, evS_tf, evS_ft, ev_t, ev_s, ev_c, evalOp, bin_add, bin_sub, bin_mul, bin_eql, bin_neq, bin_lss, bin_leq, bin_gtr, bin_geq, sbin_eql, sbin_neq, b8, List.map_cons, List.map_nil, PV.rens, PV.ren, if_true, if_false, Bool.false_eq_true, reduceIte, Nat.reduceAdd, Nat.reduceSub, Nat.reduceMul, Nat.reduceEqDiff, Nat.reduceLeDiff, Int.reduceLE, Int.reduceLT, Int.reduceEq, Int.reduceToNat, Int.reduceAdd, Int.reduceSub, Int.reduceNeg, decide_true, decide_false, Bool.not_true, Bool.not_false, Bool.true_and, Bool.false_and, Bool.and_true, Bool.and_false, Bool.or_true, Bool.true_or, Bool.or_false, Bool.false_or, and_self, and_true, true_and, Nat.le_refl, Nat.zero_add, Nat.mul_one, Nat.one_ne_zero, Nat.zero_le, highP, lowP, Option.map_some, Option.map_none, List.drop_zero, List.take_zero, List.length_cons, List.length_nil, List.nil_append, List.append_nil, List.cons_append, fillP, PV.cells?, PV.one, PV.cleans, PV.clean, PV.of?, List.all_cons, List.all_nil, List.take_succ_cons, List.drop_succ_cons, Bool.and_self, Int.natCast_nonneg, Int.toNat_natCast, Int.toNat_zero, PV.of?, Tk.ren, tailP, evL_loop, or_true, true_or, Nat.zero_lt_one, Nat.sub_zero, List.getElem?_cons_zero, List.getElem?_cons_succ, List.set_cons_zero, List.set_cons_succ, List.take_length, f1, c1, c59, hc]
      · refine ⟨false, ?_⟩
        simp only [inP, q51_2, evL_op, evL_sel, evL_nx, evL_exit, evL_ret, evL_join, evL_block, evL_cond, evK_some, evJ_nx, evJ_rt, evJ_ex, evB_nx, evB_rt, evB_ex, evC2_bool, evS_and, evS_or, evS_tf, evS_ft, ev_t, ev_s, ev_c, evalOp, bin_add, bin_sub, bin_mul, bin_eql, bin_neq, bin_lss, bin_leq, bin_gtr, bin_geq, sbin_eql, sbin_neq, b8, List.map_cons, List.map_nil, PV.rens, PV.ren, if_true, if_false, Bool.false_eq_true, reduceIte, Nat.reduceAdd, Nat.reduceSub, Nat.reduceMul, Nat.reduceEqDiff, Nat.reduceLeDiff, Int.reduceLE, Int.reduceLT, Int.reduceEq, Int.reduceToNat, Int.reduceAdd, Int.reduceSub, Int.reduceNeg, decide_true, decide_false, Bool.not_true, Bool.not_false, Bool.true_and, Bool.false_and, Bool.and_true, Bool.and_false, Bool.or_true, Bool.true_or, Bool.or_false, Bool.false_or, and_self, and_true, true_and, Nat.le_refl, Nat.zero_add, Nat.mul_one, Nat.one_ne_zero, Nat.zero_le, highP, lowP, Option.map_some, Option.map_none, List.drop_zero, List.take_zero, List.length_cons, List.length_nil, List.nil_append, List.append_nil, List.cons_append, fillP, PV.cells?, PV.one, PV.cleans, PV.clean, PV.of?, List.all_cons, List.all_nil, List.take_succ_cons, List.drop_succ_cons, Bool.and_self, Int.natCast_nonneg, Int.toNat_natCast, Int.toNat_zero, PV.of?, Tk.ren, tailP, evL_loop, or_true, true_or, Nat.zero_lt_one, Nat.sub_zero, List.getElem?_cons_zero, List.getElem?_cons_succ, List.set_cons_zero, List.set_cons_succ, List.take_length, f1, c1, c59, hc]
    · have f1 : ¬ (pos : Int) < l.length := by omega
      refine ⟨false, ?_⟩
      simp only [inP, q51_2, evL_op, evL_sel, evL_nx, evL_exit, evL_ret, evL_join, evL_block, evL_cond, evK_some, evJ_nx, evJ_rt, evJ_ex, evB_nx, evB_rt, evB_ex, evC2_bool, evS_and, evS_or, evS_tf, evS_ft, ev_t, ev_s, ev_c, evalOp, bin_add, bin_sub, bin_mul, bin_eql, bin_neq, bin_lss, bin_leq, bin_gtr, bin_geq, sbin_eql, sbin_neq, b8, List.map_cons, List.map_nil, PV.rens, PV.ren, if_true, if_false, Bool.false_eq_true, reduceIte, Nat.reduceAdd, Nat.reduceSub, Nat.reduceMul, Nat.reduceEqDiff, Nat.reduceLeDiff, Int.reduceLE, Int.reduceLT, Int.reduceEq, Int.reduceToNat, Int.reduceAdd, Int.reduceSub, Int.reduceNeg, decide_true, decide_false, Bool.not_true, Bool.not_false, Bool.true_and, Bool.false_and, Bool.and_true, Bool.and_false, Bool.or_true, Bool.true_or, Bool.or_false, Bool.false_or, and_self, and_true, true_and, Nat.le_refl, Nat.zero_add, Nat.mul_one, Nat.one_ne_zero, Nat.zero_le, highP, lowP, Option.map_some, Option.map_none, List.drop_zero, List.take_zero, List.length_cons, List.length_nil, List.nil_append, List.append_nil, List.cons_append, fillP, PV.cells?, PV.one, PV.cleans, PV.clean, PV.of?, List.all_cons, List.all_nil, List.take_succ_cons, List.drop_succ_cons, Bool.and_self, Int.natCast_nonneg, Int.toNat_natCast, Int.toNat_zero, PV.of?, Tk.ren, tailP, evL_loop, or_true, true_or, Nat.zero_lt_one, Nat.sub_zero, List.getElem?_cons_zero, List.getElem?_cons_succ, List.set_cons_zero, List.set_cons_succ, List.take_length, f1]
  obtain ⟨fb, key⟩ := key
  refine ⟨pos, fb, evT_of (k := l.length + 2) (F := l51) (H' := []) (e := [.int .i64 pos, .bool fb]) (l := [.int .i64 pos, .bool fb]) rfl rfl rfl ?_ rfl rfl, h1, h2, h3⟩
  show evL T (l.length + 2) q51 _ _ = _
  simp only [inP, O0] at lp key
  simp only [inP, q51, evL_op, evL_sel, evL_nx, evL_exit, evL_ret, evL_join, evL_block, evL_cond, evK_some, evJ_nx, evJ_rt, evJ_ex, evB_nx, evB_rt, evB_ex, evC2_bool, evS_and, evS_or, evS_tf, evS_ft, ev_t, ev_s, ev_c, evalOp, bin_add, bin_sub, bin_mul, bin_eql, bin_neq, bin_lss, bin_leq, bin_gtr, bin_geq, sbin_eql, sbin_neq, b8, List.map_cons, List.map_nil, PV.rens, PV.ren, if_true, if_false, Bool.false_eq_true, reduceIte, Nat.reduceAdd, Nat.reduceSub, Nat.reduceMul, Nat.reduceEqDiff, Nat.reduceLeDiff, Int.reduceLE, Int.reduceLT, Int.reduceEq, Int.reduceToNat, Int.reduceAdd, Int.reduceSub, Int.reduceNeg, decide_true, decide_false, Bool.not_true, Bool.not_false, Bool.true_and, Bool.false_and, Bool.and_true, Bool.and_false, Bool.or_true, Bool.true_or, Bool.or_false, Bool.false_or, and_self, and_true, true_and, Nat.le_refl, Nat.zero_add, Nat.mul_one, Nat.one_ne_zero, Nat.zero_le, highP, lowP, Option.map_some, Option.map_none, List.drop_zero, List.take_zero, List.length_cons, List.length_nil, List.nil_append, List.append_nil, List.cons_append, fillP, PV.cells?, PV.one, PV.cleans, PV.clean, PV.of?, List.all_cons, List.all_nil, List.take_succ_cons, List.drop_succ_cons, Bool.and_self, Int.natCast_nonneg, Int.toNat_natCast, Int.toNat_zero, PV.of?, Tk.ren, tailP, evL_loop, or_true, true_or, Nat.zero_lt_one, Nat.sub_zero, List.getElem?_cons_zero, List.getElem?_cons_succ, List.set_cons_zero, List.set_cons_succ, List.take_length]
  rw [lp]
  simp only [evL_op, evL_sel, evL_nx, evL_exit, evL_ret, evL_join, evL_block, evL_cond, evK_some, evJ_nx, evJ_rt, evJ_ex, evB_nx, evB_rt, evB_ex, evC2_bool, evS_and, evS_or, evS_tf, evS_ft, ev_t, ev_s, ev_c, evalOp, bin_add, bin_sub, bin_mul, bin_eql, bin_neq, bin_lss, bin_leq, bin_gtr, bin_geq, sbin_eql, sbin_neq, b8, List.map_cons, List.map_nil, PV.rens, PV.ren, if_true, if_false, Bool.false_eq_true, reduceIte, Nat.reduceAdd, Nat.reduceSub, Nat.reduceMul, Nat.reduceEqDiff, Nat.reduceLeDiff, Int.reduceLE, Int.reduceLT, Int.reduceEq, Int.reduceToNat, Int.reduceAdd, Int.reduceSub, Int.reduceNeg, decide_true, decide_false, Bool.not_true, Bool.not_false, Bool.true_and, Bool.false_and, Bool.and_true, Bool.and_false, Bool.or_true, Bool.true_or, Bool.or_false, Bool.false_or, and_self, and_true, true_and, Nat.le_refl, Nat.zero_add, Nat.mul_one, Nat.one_ne_zero, Nat.zero_le, highP, lowP, Option.map_some, Option.map_none, List.drop_zero, List.take_zero, List.length_cons, List.length_nil, List.nil_append, List.append_nil, List.cons_append, fillP, PV.cells?, PV.one, PV.cleans, PV.clean, PV.of?, List.all_cons, List.all_nil, List.take_succ_cons, List.drop_succ_cons, Bool.and_self, Int.natCast_nonneg, Int.toNat_natCast, Int.toNat_zero, PV.of?, Tk.ren, tailP, evL_loop, or_true, true_or, Nat.zero_lt_one, Nat.sub_zero, List.getElem?_cons_zero, List.getElem?_cons_succ, List.set_cons_zero, List.set_cons_succ, List.take_length]
  exact key
theorem T_bin0 (z : Nat) (y : Int) : T 51 [.sl .no z 0 [], .int .i64 y] [] = some (.tup [.int .i64 0, .bool false], []) :=
  evT_of (k := 1) (F := l51) (H' := []) (e := [.int .i64 0, .bool false]) (l := [.int .i64 0, .bool false]) rfl rfl rfl rfl rfl rfl
/-- A number put into its place. -/
def insU (y : Int) : List Int → List Int
  | [] => [y]
  | x :: r => if x < y then x :: insU y r else y :: x :: r
theorem insU_at {y : Int} : ∀ {l : List Int} {pos : Nat}, pos ≤ l.length → (∀ k (hk : k < l.length), k < pos → l[k] < y) → (∀ k (hk : k < l.length), pos ≤ k → y ≤ l[k]) → l.take pos ++ y :: l.drop pos = insU y l
  | [], pos, h, _, _ => by simp [insU]
  | x :: r, 0, h, _, h2 => by
    have := h2 0 (by simp) (Nat.le_refl _)
    simp only [List.getElem_cons_zero] at this
    unfold insU
    rw [if_neg (by omega)]
    rfl
  | x :: r, pos + 1, h, h1, h2 => by
    have := h1 0 (by simp) (by omega)
    simp only [List.getElem_cons_zero] at this
    unfold insU
    rw [if_pos this, List.take_succ_cons, List.drop_succ_cons, List.cons_append, insU_at (by simpa using h) (fun k hk hkp => h1 (k + 1) (by simp only [List.length_cons]; omega) (by omega)) (fun k hk hkp => h2 (k + 1) (by simp only [List.length_cons]; omega) (by omega))]
end Go.Proofs.YtnljpfjoboafoaaDoor.Tab

namespace Go.Proofs.YtnljpfjoboafoaaDoor.Tab
set_option linter.all false
open Go Go.RowKit Go.Proofs.YtnljpfjoboafoaaDoor.Ev
def doneS (s : Spl) (num : Int) : Option Spl :=
  if comesS s num = true then some (if s.of_ = num then { s with done := insU num s.done, of_ := -1, part := [] } else { s with done := insU num s.done }) else none
theorem insU_len (y : Int) : ∀ l : List Int, (insU y l).length = l.length + 1
  | [] => rfl
  | x :: r => by
    unfold insU
    split
    · rw [List.length_cons, insU_len y r, List.length_cons]
    · rfl
section
variable {H : Hp} {q p : Nat} {s : Spl} {a b c d : PV}
theorem ins_row (h : SH H q p s a b c d) (num : Int) (hs : Up s.done) (hl : s.done.length ≤ 1000000) : ∃ (d' : PV) (pos : Nat) (fb : Bool) (X : Hp), lendL H [d, .int .i64 num] = some [d', .int .i64 num] ∧
    T 51 [d', .int .i64 num] [] = some (.tup [.int .i64 pos, .bool fb], []) ∧ T 52 [d, .int .i64 pos, .sl (.tok H.length) 1 1 [.int .i64 num]] (H ++ [Ob.tok]) = some (.row (H.length + 1) 0 1 (s.done.length + 1), X) ∧
    X.length = H.length + 2 ∧ (∀ k, k < H.length → k ∉ d.toks → X[k]? = H[k]?) ∧ X[H.length + 1]? = some (.cells (nCs (insU num s.done))) := by
  rcases h.rd with ⟨h0, k, z, rfl, hz, hk⟩ | ⟨h0, k, rfl, hk⟩
  · have hd0 : s.done = [] := List.eq_nil_of_length_eq_zero h0
    have hkl := (List.getElem?_eq_some_iff.1 hk).1
    refine ⟨.sl .no z 0 [], 0, false, (H ++ [Ob.tok]).set k .dead ++ [Ob.cells [.int .i64 num]], rfl, T_bin0 z num, evT_ov (φ := ovIns) rfl ?_, by simp, fun j hj hjn => ?_, ?_⟩
    · have e1 : (H ++ [Ob.tok])[k]? = some .tok := (List.getElem?_append_left hkl).trans hk
      have e2 : (H ++ [Ob.tok])[H.length]? = some .tok := by simp
      have e3 : k ≠ H.length := by omega
      have hl0 : s.done.length = 0 := h0
      show (match (H ++ [Ob.tok])[k]?, (H ++ [Ob.tok])[H.length]? with
        | some Ob.tok, some Ob.tok => if (z = 1 ∨ z = 0) ∧ k ≠ H.length then some (PV.row (H ++ [Ob.tok]).length 0 1 1, (H ++ [Ob.tok]).set k .dead ++ [Ob.cells [.int .i64 num]]) else none
        | _, _ => none) = _
      rw [e1, e2]
      dsimp only
      rw [if_pos ⟨hz, e3⟩, hl0]
      simp
    · rw [List.getElem?_append_left (by simp; omega), List.getElem?_set_ne (fun e => hjn (by simp [PV.toks, e])), List.getElem?_append_left hj]
    · rw [hd0]
      rw [List.getElem?_append_right (by simp)]
      simp [insU]
  · obtain ⟨pos, fb, c51, h1, h2, h3⟩ := T_bin s.done num hs hl
    have hkl := (List.getElem?_eq_some_iff.1 hk).1
    have hnl : (nCs s.done).length = s.done.length := by simp
    have hins : (nCs s.done).take pos ++ [.int .i64 num] ++ (nCs s.done).drop pos = nCs (insU num s.done) := by
      rw [← insU_at h1 h2 h3]
      simp [nCs, List.map_take, List.map_drop]
    refine ⟨inP s.done, pos, fb, (H ++ [Ob.tok]).set k .dead ++ [Ob.cells ((nCs s.done).take pos ++ [.int .i64 num] ++ (nCs s.done).drop pos)], ?_, c51, evT_ov (φ := ovIns) rfl ?_, by simp, fun j hj hjn => ?_, ?_⟩
    · have h1 : 0 + s.done.length ≤ (nCs s.done).length := by simp
      simp only [lendL, PV.lend, hk, h1, if_true, List.drop_zero, Nat.mul_one, List.take_of_length_le (Nat.le_of_eq hnl), ints_cleans, ints_one]
      rfl
    · have e1 : (H ++ [Ob.tok])[k]? = some (.cells (nCs s.done)) := (List.getElem?_append_left hkl).trans hk
      have e2 : (H ++ [Ob.tok])[H.length]? = some .tok := by simp
      show (match (H ++ [Ob.tok])[k]?, (H ++ [Ob.tok])[H.length]? with
        | some (Ob.cells cs), some Ob.tok => if cs.length = s.done.length ∧ cs.all PV.one = true ∧ (0 : Int) ≤ (pos : Int) ∧ (pos : Int) ≤ s.done.length ∧ s.done.length + 1 ≤ 1000000000000 then some (PV.row (H ++ [Ob.tok]).length 0 1 (s.done.length + 1), (H ++ [Ob.tok]).set k .dead ++ [Ob.cells (cs.take (pos : Int).toNat ++ [PV.int .i64 num] ++ cs.drop (pos : Int).toNat)]) else none
        | _, _ => none) = _
      rw [e1, e2]
      dsimp only
      rw [if_pos ⟨hnl, ints_one _, by omega, by omega, by omega⟩, Int.toNat_natCast]
      simp
    · rw [List.getElem?_append_left (by simp; omega), List.getElem?_set_ne (fun e => hjn (by simp [PV.toks, e])), List.getElem?_append_left hj]
    · rw [hins]
      rw [List.getElem?_append_right (by simp)]
      simp
theorem T_done {r : Rc} {cs : List PV} (h : SH H q p s a b c d) (hr : RecR r cs) (hs : Up s.done) (hl : s.done.length ≤ 1000000) :
    ∃ H', T 39 [.ptr p 0, .agg cs] H = some (.bool (doneS s r.number).isSome, H') ∧ SHx H' q p ((doneS s r.number).getD s) ∧ H.length ≤ H'.length := by
  obtain ⟨x1, x2, x3⟩ := hr.box
  have hc : (cs.drop 12).take 1 = [.int .i64 r.number] := by obtain ⟨ra, rb, rc, rd, rfl, _⟩ := hr; rfl
  generalize r.number = num at *
  obtain ⟨H1, c50, ⟨a1, b1, c1, d1, h1⟩, hlen⟩ := T_comes h num hl
  have hpl := h.plt
  have hql := h.qlt
  have hp1 := h1.plt
  have hp := h1.at_
  unfold cellS at hp
  unfold doneS
  cases hw : comesS s num with
  | false =>
    rw [hw] at c50
    refine fin_bool (k := 0) (F := l39) rfl rfl rfl rfl rfl ?_ h1 hlen hpl hql
    show evL T 0 q39 _ _ = _
    unfold q39
    rw [evL_op, bx (by rfl) x1 x2, evK_some]
    simp only [evL_op, evL_sel, evL_nx, evL_exit, evL_ret, evL_join, evL_block, evL_cond, evK_some, evJ_nx, evJ_rt, evJ_ex, evB_nx, evB_rt, evB_ex, evC2_bool, evS_and, evS_or, evS_tf, evS_ft, ev_t, ev_s, ev_c, evalOp, bin_add, bin_sub, bin_mul, bin_eql, bin_neq, bin_lss, bin_leq, bin_gtr, bin_geq, sbin_eql, sbin_neq, b8, List.map_cons, List.map_nil, PV.rens, PV.ren, if_true, if_false, Bool.false_eq_true, reduceIte, Nat.reduceAdd, Nat.reduceSub, Nat.reduceMul, Nat.reduceEqDiff, Nat.reduceLeDiff, Int.reduceLE, Int.reduceLT, Int.reduceEq, Int.reduceToNat, Int.reduceAdd, Int.reduceSub, Int.reduceNeg, decide_true, decide_false, Bool.not_true, Bool.not_false, Bool.true_and, Bool.false_and, Bool.and_true, Bool.and_false, Bool.or_true, Bool.true_or, Bool.or_false, Bool.false_or, and_self, and_true, true_and, Nat.le_refl, Nat.zero_add, Nat.mul_one, Nat.one_ne_zero, Nat.zero_le, highP, lowP, Option.map_some, Option.map_none, List.drop_zero, List.take_zero, List.length_cons, List.length_nil, List.nil_append, List.append_nil, List.cons_append, fillP, PV.cells?, PV.one, PV.cleans, PV.clean, PV.of?, List.all_cons, List.all_nil, List.take_succ_cons, List.drop_succ_cons, Bool.and_self, Int.natCast_nonneg, Int.toNat_natCast, Int.toNat_zero, PV.of?, Tk.ren, tailP, evL_loop, or_true, true_or, Nat.zero_lt_one, Nat.sub_zero, List.getElem?_cons_zero, List.getElem?_cons_succ, List.set_cons_zero, List.set_cons_succ, List.take_length, c50, hc]
    rfl
  | true =>
    rw [hw] at c50
    obtain ⟨d', pos, fb, X, hL2, c51, c52, hX1, hX2, hX3⟩ := ins_row h1 num hs hl
    have hpd : p ∉ d1.toks := fun hm => (h1.sep.2.2.2.2.1 p hm).1 rfl
    have hXp : X[p]? = _ := (hX2 p hp1 hpd).trans hp
    have hXs : ∀ o, (X.set p o)[p]? = some o := fun o => List.getElem?_set_self (by omega)
    have hlen1 := insU_len num s.done
    have hS : SH (X.set p (.cells (cellS a1 b1 c1 (.row (H1.length + 1) 0 1 (insU num s.done).length) { s with done := insU num s.done }))) q p { s with done := insU num s.done } a1 b1 c1 (.row (H1.length + 1) 0 1 (insU num s.done).length) :=
      h1.swap_d (j := H1.length + 1) (s' := { s with done := insU num s.done }) rfl rfl rfl (fun k hk hkd hkp => by rw [List.getElem?_set_ne hkp.symm]; exact hX2 k hk hkd) (hXs _) (by omega) (by rw [List.getElem?_set_ne (by omega)]; exact hX3) (by dsimp only; omega)
    rw [if_pos rfl]
    by_cases ho : s.of_ = num
    · rw [if_pos ho]
      have hS2 := hS.drop_c (s' := { s with done := insU num s.done, of_ := -1, part := [] }) rfl rfl rfl rfl
      refine fin_bool (k := 0) (F := l39) rfl rfl rfl rfl rfl ?_ hS2 (by simp; omega) hpl hql
      show evL T 0 q39 _ _ = _
      unfold q39
      rw [evL_op, bx (by rfl) x1 x2, evK_some]
      simp only [evL_op, evL_sel, evL_nx, evL_exit, evL_ret, evL_join, evL_block, evL_cond, evK_some, evJ_nx, evJ_rt, evJ_ex, evB_nx, evB_rt, evB_ex, evC2_bool, evS_and, evS_or, evS_tf, evS_ft, ev_t, ev_s, ev_c, evalOp, bin_add, bin_sub, bin_mul, bin_eql, bin_neq, bin_lss, bin_leq, bin_gtr, bin_geq, sbin_eql, sbin_neq, b8, List.map_cons, List.map_nil, PV.rens, PV.ren, if_true, if_false, Bool.false_eq_true, reduceIte, Nat.reduceAdd, Nat.reduceSub, Nat.reduceMul, Nat.reduceEqDiff, Nat.reduceLeDiff, Int.reduceLE, Int.reduceLT, Int.reduceEq, Int.reduceToNat, Int.reduceAdd, Int.reduceSub, Int.reduceNeg, decide_true, decide_false, Bool.not_true, Bool.not_false, Bool.true_and, Bool.false_and, Bool.and_true, Bool.and_false, Bool.or_true, Bool.true_or, Bool.or_false, Bool.false_or, and_self, and_true, true_and, Nat.le_refl, Nat.zero_add, Nat.mul_one, Nat.one_ne_zero, Nat.zero_le, highP, lowP, Option.map_some, Option.map_none, List.drop_zero, List.take_zero, List.length_cons, List.length_nil, List.nil_append, List.append_nil, List.cons_append, fillP, PV.cells?, PV.one, PV.cleans, PV.clean, PV.of?, List.all_cons, List.all_nil, List.take_succ_cons, List.drop_succ_cons, Bool.and_self, Int.natCast_nonneg, Int.toNat_natCast, Int.toNat_zero, PV.of?, Tk.ren, tailP, evL_loop, or_true, true_or, Nat.zero_lt_one, Nat.sub_zero, List.getElem?_cons_zero, List.getElem?_cons_succ, List.set_cons_zero, List.set_cons_succ, List.take_length, PV.scal, PV.scal0, q39_0, c50, hc, hp, hL2, c51, c52, hXp, hXs, ho, List.set_set, cellS, hlen1]
      rfl
    · rw [if_neg ho]
      refine fin_bool (k := 0) (F := l39) rfl rfl rfl rfl rfl ?_ hS (by simp; omega) hpl hql
      show evL T 0 q39 _ _ = _
      unfold q39
      rw [evL_op, bx (by rfl) x1 x2, evK_some]
      simp only [evL_op, evL_sel, evL_nx, evL_exit, evL_ret, evL_join, evL_block, evL_cond, evK_some, evJ_nx, evJ_rt, evJ_ex, evB_nx, evB_rt, evB_ex, evC2_bool, evS_and, evS_or, evS_tf, evS_ft, ev_t, ev_s, ev_c, evalOp, bin_add, bin_sub, bin_mul, bin_eql, bin_neq, bin_lss, bin_leq, bin_gtr, bin_geq, sbin_eql, sbin_neq, b8, List.map_cons, List.map_nil, PV.rens, PV.ren, if_true, if_false, Bool.false_eq_true, reduceIte, Nat.reduceAdd, Nat.reduceSub, Nat.reduceMul, Nat.reduceEqDiff, Nat.reduceLeDiff, Int.reduceLE, Int.reduceLT, Int.reduceEq, Int.reduceToNat, Int.reduceAdd, Int.reduceSub, Int.reduceNeg, decide_true, decide_false, Bool.not_true, Bool.not_false, Bool.true_and, Bool.false_and, Bool.and_true, Bool.and_false, Bool.or_true, Bool.true_or, Bool.or_false, Bool.false_or, and_self, and_true, true_and, Nat.le_refl, Nat.zero_add, Nat.mul_one, Nat.one_ne_zero, Nat.zero_le, highP, lowP, Option.map_some, Option.map_none, List.drop_zero, List.take_zero, List.length_cons, List.length_nil, List.nil_append, List.append_nil, List.cons_append, fillP, PV.cells?, PV.one, PV.cleans, PV.clean, PV.of?, List.all_cons, List.all_nil, List.take_succ_cons, List.drop_succ_cons, Bool.and_self, Int.natCast_nonneg, Int.toNat_natCast, Int.toNat_zero, PV.of?, Tk.ren, tailP, evL_loop, or_true, true_or, Nat.zero_lt_one, Nat.sub_zero, List.getElem?_cons_zero, List.getElem?_cons_succ, List.set_cons_zero, List.set_cons_succ, List.take_length, PV.scal, PV.scal0, q39_0, c50, hc, hp, hL2, c51, c52, hXp, hXs, ho, List.set_set, cellS, hlen1]
      rfl
end
end Go.Proofs.YtnljpfjoboafoaaDoor.Tab

namespace Go.Proofs.YtnljpfjoboafoaaDoor.Tab
set_option linter.all false
open Go Go.RowKit Go.Proofs.YtnljpfjoboafoaaDoor.Ev
def addS (s : Spl) (r : Rc) : Option Spl :=
  if plainR r = true then
    (if r.kind = 1 then mailS s r else if r.kind = 2 then packS s r else if r.kind = 3 then sentS s r.number else if r.kind = 4 then bounceS s r.id else if r.kind = 5 then chunkS s r else doneS s r.number)
  else none
structure Roomy (s : Spl) : Prop where
  il : s.items.length ≤ 1000000
  sl : s.sent.length ≤ 1000000
  dl : s.done.length ≤ 1000000
  pl : s.part.length ≤ 1000000
  p0 : 0 ≤ s.packs
  p1 : s.packs ≤ 1000000
  up : Up s.done
section
variable {H : Hp} {q p : Nat} {s : Spl} {a b c d : PV}
theorem T_add {r : Rc} {cs : List PV} (h : SH H q p s a b c d) (hr : RecR r cs) (hf : Fits r) (hsh : Shorts r) (hk : Roomy s) :
    ∃ H', T 25 [.ptr p 0, .agg cs] H = some (.bool (addS s r).isSome, H') ∧ SHx H' q p ((addS s r).getD s) ∧ H.length ≤ H'.length := by
  obtain ⟨x1, x2, x3⟩ := hr.box
  have hlen : cs.length = 15 := by obtain ⟨ra, rb, rc, rd, rfl, _⟩ := hr; rfl
  have htk : cs.take 15 = cs := List.take_of_length_le (by omega)
  have hc0 : cs.take 1 = [.int .i64 r.kind] := by obtain ⟨ra, rb, rc, rd, rfl, _⟩ := hr; rfl
  have c33 := T_plain hr hf
  have hpl := h.plt
  have hql := h.qlt
  unfold addS
  cases hpr : plainR r with
  | false =>
    rw [hpr] at c33
    rw [if_neg (by decide)]
    refine fin_bool (k := 0) (F := l25) rfl rfl rfl rfl rfl ?_ h (Nat.le_refl _) hpl hql
    show evL T 0 q25 _ _ = _
    unfold q25
    rw [evL_op, bx (by rfl) x1 x2, evK_some]
    simp only [evL_op, evL_sel, evL_nx, evL_exit, evL_ret, evL_join, evL_block, evL_cond, evK_some, evJ_nx, evJ_rt, evJ_ex, evB_nx, evB_rt, evB_ex, evC2_bool, evS_and, evS_or, evS_tf, evS_ft, ev_t, ev_s, ev_c, evalOp, bin_add, bin_sub, bin_mul, bin_eql, bin_neq, bin_lss, bin_leq, bin_gtr, bin_geq, sbin_eql, sbin_neq, b8, List.map_cons, List.map_nil, PV.rens, PV.ren, if_true, if_false, Bool.false_eq_true, reduceIte, Nat.reduceAdd, Nat.reduceSub, Nat.reduceMul, Nat.reduceEqDiff, Nat.reduceLeDiff, Int.reduceLE, Int.reduceLT, Int.reduceEq, Int.reduceToNat, Int.reduceAdd, Int.reduceSub, Int.reduceNeg, decide_true, decide_false, Bool.not_true, Bool.not_false, Bool.true_and, Bool.false_and, Bool.and_true, Bool.and_false, Bool.or_true, Bool.true_or, Bool.or_false, Bool.false_or, and_self, and_true, true_and, Nat.le_refl, Nat.zero_add, Nat.mul_one, Nat.one_ne_zero, Nat.zero_le, highP, lowP, Option.map_some, Option.map_none, List.drop_zero, List.take_zero, List.length_cons, List.length_nil, List.nil_append, List.append_nil, List.cons_append, fillP, PV.cells?, PV.one, PV.cleans, PV.clean, PV.of?, List.all_cons, List.all_nil, List.take_succ_cons, List.drop_succ_cons, Bool.and_self, Int.natCast_nonneg, Int.toNat_natCast, Int.toNat_zero, PV.of?, Tk.ren, tailP, evL_loop, or_true, true_or, Nat.zero_lt_one, Nat.sub_zero, List.getElem?_cons_zero, List.getElem?_cons_succ, List.set_cons_zero, List.set_cons_succ, List.take_length, hlen, htk, x3, c33]
    rfl
  | true =>
    rw [hpr] at c33
    rw [if_pos rfl]
    by_cases k1 : r.kind = 1
    · rw [if_pos k1]
      obtain ⟨H1, c34, ⟨a1, b1, c1, d1, h1⟩, hl1⟩ := T_mailR h hr hf hsh hk.il
      refine fin_bool (k := 0) (F := l25) rfl rfl rfl rfl rfl ?_ h1 hl1 hpl hql
      show evL T 0 q25 _ _ = _
      unfold q25
      rw [evL_op, bx (by rfl) x1 x2, evK_some]
      simp only [evL_op, evL_sel, evL_nx, evL_exit, evL_ret, evL_join, evL_block, evL_cond, evK_some, evJ_nx, evJ_rt, evJ_ex, evB_nx, evB_rt, evB_ex, evC2_bool, evS_and, evS_or, evS_tf, evS_ft, ev_t, ev_s, ev_c, evalOp, bin_add, bin_sub, bin_mul, bin_eql, bin_neq, bin_lss, bin_leq, bin_gtr, bin_geq, sbin_eql, sbin_neq, b8, List.map_cons, List.map_nil, PV.rens, PV.ren, if_true, if_false, Bool.false_eq_true, reduceIte, Nat.reduceAdd, Nat.reduceSub, Nat.reduceMul, Nat.reduceEqDiff, Nat.reduceLeDiff, Int.reduceLE, Int.reduceLT, Int.reduceEq, Int.reduceToNat, Int.reduceAdd, Int.reduceSub, Int.reduceNeg, decide_true, decide_false, Bool.not_true, Bool.not_false, Bool.true_and, Bool.false_and, Bool.and_true, Bool.and_false, Bool.or_true, Bool.true_or, Bool.or_false, Bool.false_or, and_self, and_true, true_and, Nat.le_refl, Nat.zero_add, Nat.mul_one, Nat.one_ne_zero, Nat.zero_le, highP, lowP, Option.map_some, Option.map_none, List.drop_zero, List.take_zero, List.length_cons, List.length_nil, List.nil_append, List.append_nil, List.cons_append, fillP, PV.cells?, PV.one, PV.cleans, PV.clean, PV.of?, List.all_cons, List.all_nil, List.take_succ_cons, List.drop_succ_cons, Bool.and_self, Int.natCast_nonneg, Int.toNat_natCast, Int.toNat_zero, PV.of?, Tk.ren, tailP, evL_loop, or_true, true_or, Nat.zero_lt_one, Nat.sub_zero, List.getElem?_cons_zero, List.getElem?_cons_succ, List.set_cons_zero, List.set_cons_succ, List.take_length, q25_0, hlen, htk, hc0, x3, c33, k1, c34]
    by_cases k2 : r.kind = 2
    · rw [if_neg k1, if_pos k2]
      obtain ⟨H1, c35, ⟨a1, b1, c1, d1, h1⟩, hl1⟩ := T_pack h hr hf hk.il hk.p0 hk.p1
      refine fin_bool (k := 0) (F := l25) rfl rfl rfl rfl rfl ?_ h1 hl1 hpl hql
      show evL T 0 q25 _ _ = _
      unfold q25
      rw [evL_op, bx (by rfl) x1 x2, evK_some]
      simp only [evL_op, evL_sel, evL_nx, evL_exit, evL_ret, evL_join, evL_block, evL_cond, evK_some, evJ_nx, evJ_rt, evJ_ex, evB_nx, evB_rt, evB_ex, evC2_bool, evS_and, evS_or, evS_tf, evS_ft, ev_t, ev_s, ev_c, evalOp, bin_add, bin_sub, bin_mul, bin_eql, bin_neq, bin_lss, bin_leq, bin_gtr, bin_geq, sbin_eql, sbin_neq, b8, List.map_cons, List.map_nil, PV.rens, PV.ren, if_true, if_false, Bool.false_eq_true, reduceIte, Nat.reduceAdd, Nat.reduceSub, Nat.reduceMul, Nat.reduceEqDiff, Nat.reduceLeDiff, Int.reduceLE, Int.reduceLT, Int.reduceEq, Int.reduceToNat, Int.reduceAdd, Int.reduceSub, Int.reduceNeg, decide_true, decide_false, Bool.not_true, Bool.not_false, Bool.true_and, Bool.false_and, Bool.and_true, Bool.and_false, Bool.or_true, Bool.true_or, Bool.or_false, Bool.false_or, and_self, and_true, true_and, Nat.le_refl, Nat.zero_add, Nat.mul_one, Nat.one_ne_zero, Nat.zero_le, highP, lowP, Option.map_some, Option.map_none, List.drop_zero, List.take_zero, List.length_cons, List.length_nil, List.nil_append, List.append_nil, List.cons_append, fillP, PV.cells?, PV.one, PV.cleans, PV.clean, PV.of?, List.all_cons, List.all_nil, List.take_succ_cons, List.drop_succ_cons, Bool.and_self, Int.natCast_nonneg, Int.toNat_natCast, Int.toNat_zero, PV.of?, Tk.ren, tailP, evL_loop, or_true, true_or, Nat.zero_lt_one, Nat.sub_zero, List.getElem?_cons_zero, List.getElem?_cons_succ, List.set_cons_zero, List.set_cons_succ, List.take_length, q25_0, hlen, htk, hc0, x3, c33, k2, c35]
    by_cases k3 : r.kind = 3
    · rw [if_neg k1, if_neg k2, if_pos k3]
      obtain ⟨H1, c36, ⟨a1, b1, c1, d1, h1⟩, hl1⟩ := T_sent h hr hk.il hk.sl
      refine fin_bool (k := 0) (F := l25) rfl rfl rfl rfl rfl ?_ h1 hl1 hpl hql
      show evL T 0 q25 _ _ = _
      unfold q25
      rw [evL_op, bx (by rfl) x1 x2, evK_some]
      simp only [evL_op, evL_sel, evL_nx, evL_exit, evL_ret, evL_join, evL_block, evL_cond, evK_some, evJ_nx, evJ_rt, evJ_ex, evB_nx, evB_rt, evB_ex, evC2_bool, evS_and, evS_or, evS_tf, evS_ft, ev_t, ev_s, ev_c, evalOp, bin_add, bin_sub, bin_mul, bin_eql, bin_neq, bin_lss, bin_leq, bin_gtr, bin_geq, sbin_eql, sbin_neq, b8, List.map_cons, List.map_nil, PV.rens, PV.ren, if_true, if_false, Bool.false_eq_true, reduceIte, Nat.reduceAdd, Nat.reduceSub, Nat.reduceMul, Nat.reduceEqDiff, Nat.reduceLeDiff, Int.reduceLE, Int.reduceLT, Int.reduceEq, Int.reduceToNat, Int.reduceAdd, Int.reduceSub, Int.reduceNeg, decide_true, decide_false, Bool.not_true, Bool.not_false, Bool.true_and, Bool.false_and, Bool.and_true, Bool.and_false, Bool.or_true, Bool.true_or, Bool.or_false, Bool.false_or, and_self, and_true, true_and, Nat.le_refl, Nat.zero_add, Nat.mul_one, Nat.one_ne_zero, Nat.zero_le, highP, lowP, Option.map_some, Option.map_none, List.drop_zero, List.take_zero, List.length_cons, List.length_nil, List.nil_append, List.append_nil, List.cons_append, fillP, PV.cells?, PV.one, PV.cleans, PV.clean, PV.of?, List.all_cons, List.all_nil, List.take_succ_cons, List.drop_succ_cons, Bool.and_self, Int.natCast_nonneg, Int.toNat_natCast, Int.toNat_zero, PV.of?, Tk.ren, tailP, evL_loop, or_true, true_or, Nat.zero_lt_one, Nat.sub_zero, List.getElem?_cons_zero, List.getElem?_cons_succ, List.set_cons_zero, List.set_cons_succ, List.take_length, q25_0, hlen, htk, hc0, x3, c33, k3, c36]
    by_cases k4 : r.kind = 4
    · rw [if_neg k1, if_neg k2, if_neg k3, if_pos k4]
      obtain ⟨H1, c37, ⟨a1, b1, c1, d1, h1⟩, hl1⟩ := T_bounce h hr hk.il
      refine fin_bool (k := 0) (F := l25) rfl rfl rfl rfl rfl ?_ h1 hl1 hpl hql
      show evL T 0 q25 _ _ = _
      unfold q25
      rw [evL_op, bx (by rfl) x1 x2, evK_some]
      simp only [evL_op, evL_sel, evL_nx, evL_exit, evL_ret, evL_join, evL_block, evL_cond, evK_some, evJ_nx, evJ_rt, evJ_ex, evB_nx, evB_rt, evB_ex, evC2_bool, evS_and, evS_or, evS_tf, evS_ft, ev_t, ev_s, ev_c, evalOp, bin_add, bin_sub, bin_mul, bin_eql, bin_neq, bin_lss, bin_leq, bin_gtr, bin_geq, sbin_eql, sbin_neq, b8, List.map_cons, List.map_nil, PV.rens, PV.ren, if_true, if_false, Bool.false_eq_true, reduceIte, Nat.reduceAdd, Nat.reduceSub, Nat.reduceMul, Nat.reduceEqDiff, Nat.reduceLeDiff, Int.reduceLE, Int.reduceLT, Int.reduceEq, Int.reduceToNat, Int.reduceAdd, Int.reduceSub, Int.reduceNeg, decide_true, decide_false, Bool.not_true, Bool.not_false, Bool.true_and, Bool.false_and, Bool.and_true, Bool.and_false, Bool.or_true, Bool.true_or, Bool.or_false, Bool.false_or, and_self, and_true, true_and, Nat.le_refl, Nat.zero_add, Nat.mul_one, Nat.one_ne_zero, Nat.zero_le, highP, lowP, Option.map_some, Option.map_none, List.drop_zero, List.take_zero, List.length_cons, List.length_nil, List.nil_append, List.append_nil, List.cons_append, fillP, PV.cells?, PV.one, PV.cleans, PV.clean, PV.of?, List.all_cons, List.all_nil, List.take_succ_cons, List.drop_succ_cons, Bool.and_self, Int.natCast_nonneg, Int.toNat_natCast, Int.toNat_zero, PV.of?, Tk.ren, tailP, evL_loop, or_true, true_or, Nat.zero_lt_one, Nat.sub_zero, List.getElem?_cons_zero, List.getElem?_cons_succ, List.set_cons_zero, List.set_cons_succ, List.take_length, q25_0, hlen, htk, hc0, x3, c33, k4, c37]
    by_cases k5 : r.kind = 5
    · rw [if_neg k1, if_neg k2, if_neg k3, if_neg k4, if_pos k5]
      obtain ⟨H1, c38, ⟨a1, b1, c1, d1, h1⟩, hl1⟩ := T_chunk h hr hf hk.dl hk.pl
      refine fin_bool (k := 0) (F := l25) rfl rfl rfl rfl rfl ?_ h1 hl1 hpl hql
      show evL T 0 q25 _ _ = _
      unfold q25
      rw [evL_op, bx (by rfl) x1 x2, evK_some]
      simp only [evL_op, evL_sel, evL_nx, evL_exit, evL_ret, evL_join, evL_block, evL_cond, evK_some, evJ_nx, evJ_rt, evJ_ex, evB_nx, evB_rt, evB_ex, evC2_bool, evS_and, evS_or, evS_tf, evS_ft, ev_t, ev_s, ev_c, evalOp, bin_add, bin_sub, bin_mul, bin_eql, bin_neq, bin_lss, bin_leq, bin_gtr, bin_geq, sbin_eql, sbin_neq, b8, List.map_cons, List.map_nil, PV.rens, PV.ren, if_true, if_false, Bool.false_eq_true, reduceIte, Nat.reduceAdd, Nat.reduceSub, Nat.reduceMul, Nat.reduceEqDiff, Nat.reduceLeDiff, Int.reduceLE, Int.reduceLT, Int.reduceEq, Int.reduceToNat, Int.reduceAdd, Int.reduceSub, Int.reduceNeg, decide_true, decide_false, Bool.not_true, Bool.not_false, Bool.true_and, Bool.false_and, Bool.and_true, Bool.and_false, Bool.or_true, Bool.true_or, Bool.or_false, Bool.false_or, and_self, and_true, true_and, Nat.le_refl, Nat.zero_add, Nat.mul_one, Nat.one_ne_zero, Nat.zero_le, highP, lowP, Option.map_some, Option.map_none, List.drop_zero, List.take_zero, List.length_cons, List.length_nil, List.nil_append, List.append_nil, List.cons_append, fillP, PV.cells?, PV.one, PV.cleans, PV.clean, PV.of?, List.all_cons, List.all_nil, List.take_succ_cons, List.drop_succ_cons, Bool.and_self, Int.natCast_nonneg, Int.toNat_natCast, Int.toNat_zero, PV.of?, Tk.ren, tailP, evL_loop, or_true, true_or, Nat.zero_lt_one, Nat.sub_zero, List.getElem?_cons_zero, List.getElem?_cons_succ, List.set_cons_zero, List.set_cons_succ, List.take_length, q25_0, hlen, htk, hc0, x3, c33, k5, c38]
    rw [if_neg k1, if_neg k2, if_neg k3, if_neg k4, if_neg k5]
    obtain ⟨H1, c39, ⟨a1, b1, c1, d1, h1⟩, hl1⟩ := T_done h hr hk.up hk.dl
    refine fin_bool (k := 0) (F := l25) rfl rfl rfl rfl rfl ?_ h1 hl1 hpl hql
    show evL T 0 q25 _ _ = _
    unfold q25
    rw [evL_op, bx (by rfl) x1 x2, evK_some]
    simp only [evL_op, evL_sel, evL_nx, evL_exit, evL_ret, evL_join, evL_block, evL_cond, evK_some, evJ_nx, evJ_rt, evJ_ex, evB_nx, evB_rt, evB_ex, evC2_bool, evS_and, evS_or, evS_tf, evS_ft, ev_t, ev_s, ev_c, evalOp, bin_add, bin_sub, bin_mul, bin_eql, bin_neq, bin_lss, bin_leq, bin_gtr, bin_geq, sbin_eql, sbin_neq, b8, List.map_cons, List.map_nil, PV.rens, PV.ren, if_true, if_false, Bool.false_eq_true, reduceIte, Nat.reduceAdd, Nat.reduceSub, Nat.reduceMul, Nat.reduceEqDiff, Nat.reduceLeDiff, Int.reduceLE, Int.reduceLT, Int.reduceEq, Int.reduceToNat, Int.reduceAdd, Int.reduceSub, Int.reduceNeg, decide_true, decide_false, Bool.not_true, Bool.not_false, Bool.true_and, Bool.false_and, Bool.and_true, Bool.and_false, Bool.or_true, Bool.true_or, Bool.or_false, Bool.false_or, and_self, and_true, true_and, Nat.le_refl, Nat.zero_add, Nat.mul_one, Nat.one_ne_zero, Nat.zero_le, highP, lowP, Option.map_some, Option.map_none, List.drop_zero, List.take_zero, List.length_cons, List.length_nil, List.nil_append, List.append_nil, List.cons_append, fillP, PV.cells?, PV.one, PV.cleans, PV.clean, PV.of?, List.all_cons, List.all_nil, List.take_succ_cons, List.drop_succ_cons, Bool.and_self, Int.natCast_nonneg, Int.toNat_natCast, Int.toNat_zero, PV.of?, Tk.ren, tailP, evL_loop, or_true, true_or, Nat.zero_lt_one, Nat.sub_zero, List.getElem?_cons_zero, List.getElem?_cons_succ, List.set_cons_zero, List.set_cons_succ, List.take_length, q25_0, hlen, htk, hc0, x3, c33, k1, k2, k3, k4, k5, c39]
end
end Go.Proofs.YtnljpfjoboafoaaDoor.Tab
