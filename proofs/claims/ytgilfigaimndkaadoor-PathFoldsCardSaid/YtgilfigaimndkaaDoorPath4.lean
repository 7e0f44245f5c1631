/- Chapter 11: the document's answer's local parts. -/
import Derived.Test.YtgilfigaimndkaaDoorPath3
namespace Go.Proofs.YtgilfigaimndkaaDoor.Tab
set_option linter.all false
open Go Go.RowKit Go.Proofs.YtgilfigaimndkaaDoor.Ev
def lp : Bool → List UInt8 → Bool
  | _, [] => true
  | pd, c :: r => (if c = 46 then !pd else atomC c) && lp (c == 46) r
def lastOk (s : List UInt8) : Bool := !(s.getLast? == some 46)
theorem lastOk_cons (c : UInt8) (t : List UInt8) : lastOk (c :: t) = if t = [] then !(c == 46) else lastOk t := by
  unfold lastOk
  cases t with
  | nil => simp
  | cons a t => rw [List.getLast?_cons_cons]; simp
theorem split_lp : ∀ s : List UInt8, (∀ y r, splitBy 46 s = y :: r → (y.all atomC && r.all atom) = (lp false s && lastOk s)) ∧ (splitBy 46 s).all atom = (!decide (s = []) && lp true s && lastOk s)
  | [] => ⟨fun y r h => by simp [splitBy] at h; obtain ⟨rfl, rfl⟩ := h; rfl, by decide⟩
  | c :: t => by
    obtain ⟨ihP, ihQ⟩ := split_lp t
    by_cases hc : c = 46
    · subst hc
      have e : splitBy 46 (46 :: t) = [] :: splitBy 46 t := by conv => lhs; unfold splitBy
                                                               rw [if_pos rfl]
      refine ⟨fun y r h => ?_, ?_⟩
      · rw [e] at h
        obtain ⟨rfl, rfl⟩ := List.cons.inj h
        rw [ihQ, lastOk_cons]
        simp only [lp, if_true, Bool.not_false, Bool.true_and, beq_self_eq_true, List.all_nil]
        by_cases ht : t = []
        · subst ht; rfl
        · simp [ht]
      · rw [e, List.all_cons]
        simp [atom, lp]
    · obtain ⟨y, r, h1, h2⟩ := split_cons c hc t
      have hp := ihP y r h1
      have hb : (c == 46) = false := by simpa using hc
      have hl : (lp false t && lastOk (c :: t)) = (lp false t && lastOk t) := by
        rw [lastOk_cons]
        by_cases ht : t = []
        · subst ht; simp [hb, lastOk]
        · simp [ht]
      refine ⟨fun y' r' h => ?_, ?_⟩
      · rw [h2] at h
        obtain ⟨rfl, rfl⟩ := List.cons.inj h
        simp only [lp, if_neg hc, hb, List.all_cons]
        rw [Bool.and_assoc, Bool.and_assoc, hl, hp]
      · rw [h2, List.all_cons]
        simp only [lp, if_neg hc, hb, atom, List.all_cons]
        have : (!decide (c :: y = [])) = true := by simp
        rw [this]
        have h3 : (!decide (c :: t = [])) = true := by simp
        rw [h3, Bool.true_and, Bool.and_true, Bool.and_assoc, Bool.and_assoc, hl, hp]
theorem parts_ref (s : List UInt8) : parts s 64 atom = (decide ((1 : Int) ≤ s.length) && decide ((s.length : Int) ≤ 64) && !(s.head? == some 46) && !(s.getLast? == some 46) && lp false s) := by
  unfold parts
  rw [(split_lp s).2]
  cases s with
  | nil => decide
  | cons c t =>
    have h1 : decide ((1 : Int) ≤ ((c :: t).length : Nat)) = true := by simp; omega
    have h2 : (!decide (c :: t = [])) = true := by simp
    rw [h1, h2]
    unfold lastOk
    by_cases hc : c = 46
    · subst hc; simp [lp]
    · have hb : (c == 46) = false := by simpa using hc
      simp only [lp, if_neg hc, List.head?_cons, Option.some_beq_some, hb, Bool.not_false, Bool.true_and, Bool.and_true]
      cases decide (((c :: t).length : Int) ≤ 64) <;> cases (atomC c && lp false t) <;> cases ((c :: t).getLast? == some 46) <;> rfl
theorem byte_eqn (c : UInt8) (n : Nat) (hn : n < 256) : decide ((c.toNat : Int) = n) = (c == UInt8.ofNat n) := by
  have := byte_ne c n hn
  simpa using congrArg (!·) this
theorem body30 (k0 : Nat) (s : List UInt8) (hs : s.length ≤ 9000000000000000000) (i : Nat) (c : UInt8) (pd : Bool) (hc : s[i]? = some c) (hp : (i = 0 ∧ c ≠ 46) ∨ (1 ≤ i ∧ ∃ p, s[i - 1]? = some p ∧ pd = (p == 46))) :
    evL T k0 q30_1 [.str s, .int .i64 i] [] = if (if c = 46 then !pd else atomC c) = true then some (.nx, [.str s, .int .i64 (i + 1 : Nat)], []) else some (.rt, [.bool false], []) := by
  have hi : i < s.length := (List.getElem?_eq_some_iff.1 hc).1
  have h1 : (i : Int) < s.length := by omega
  have hw : IntKind.i64.wrap ((i : Int) + 1) = ((i + 1 : Nat) : Int) := by rw [IntWalk.i64_in _ (by omega)]; rfl
  have e46 : decide ((c.toNat : Int) = 46) = (c == 46) := byte_eqn c 46 (by omega)
  have h40 := T40 c
  by_cases hc46 : c = 46
  · subst hc46
    rcases hp with ⟨_, h⟩ | ⟨hi1, p, hp, rfl⟩
    · exact absurd rfl h
    · have hw2 : IntKind.i64.wrap ((i : Int) - 1) = ((i - 1 : Nat) : Int) := by rw [IntWalk.i64_in _ (by omega)]; omega
      have ep : decide ((p.toNat : Int) = 46) = (p == 46) := byte_eqn p 46 (by omega)
      have ec : ((46 : UInt8) == 46) = true := rfl
      simp only [q30_1, q30_0, evL_op, evL_sel, evL_nx, evL_exit, evL_ret, evL_join, evL_block, evL_cond, evK_some, evJ_nx, evJ_rt, evJ_ex, evB_nx, evB_rt, evB_ex, evC2_bool, evS_and, evS_or, evS_tf, evS_ft, ev_t, ev_s, ev_c, evalOp, bin_add, bin_sub, bin_mul, bin_eql, bin_neq, bin_lss, bin_leq, bin_gtr, bin_geq, sbin_eql, sbin_neq, b8, List.map_cons, List.map_nil, PV.rens, PV.ren, if_true, if_false, Bool.false_eq_true, reduceIte, h1, decide_true, Int.natCast_nonneg, Int.toNat_natCast, hc, e46, hw2, hp, ep, ec, Bool.true_and, Bool.not_true]
      cases (p == 46) with
      | true => simp only [evL_op, evL_sel, evL_nx, evL_exit, evL_ret, evL_join, evL_block, evL_cond, evK_some, evJ_nx, evJ_rt, evJ_ex, evB_nx, evB_rt, evB_ex, evC2_bool, evS_and, evS_or, evS_tf, evS_ft, ev_t, ev_s, ev_c, evalOp, bin_add, bin_sub, bin_mul, bin_eql, bin_neq, bin_lss, bin_leq, bin_gtr, bin_geq, sbin_eql, sbin_neq, b8, List.map_cons, List.map_nil, PV.rens, PV.ren, if_true, if_false, Bool.false_eq_true, reduceIte, Bool.not_true, Bool.or_false, Bool.true_or]
      | false => simp only [evL_op, evL_sel, evL_nx, evL_exit, evL_ret, evL_join, evL_block, evL_cond, evK_some, evJ_nx, evJ_rt, evJ_ex, evB_nx, evB_rt, evB_ex, evC2_bool, evS_and, evS_or, evS_tf, evS_ft, ev_t, ev_s, ev_c, evalOp, bin_add, bin_sub, bin_mul, bin_eql, bin_neq, bin_lss, bin_leq, bin_gtr, bin_geq, sbin_eql, sbin_neq, b8, List.map_cons, List.map_nil, PV.rens, PV.ren, if_true, if_false, Bool.false_eq_true, reduceIte, Bool.not_false, Bool.false_or, Bool.false_and, Bool.or_false, hw]
  · have ec : (c == 46) = false := by simpa using hc46
    simp only [q30_1, q30_0, evL_op, evL_sel, evL_nx, evL_exit, evL_ret, evL_join, evL_block, evL_cond, evK_some, evJ_nx, evJ_rt, evJ_ex, evB_nx, evB_rt, evB_ex, evC2_bool, evS_and, evS_or, evS_tf, evS_ft, ev_t, ev_s, ev_c, evalOp, bin_add, bin_sub, bin_mul, bin_eql, bin_neq, bin_lss, bin_leq, bin_gtr, bin_geq, sbin_eql, sbin_neq, b8, List.map_cons, List.map_nil, PV.rens, PV.ren, if_true, if_false, Bool.false_eq_true, reduceIte, h1, decide_true, Int.natCast_nonneg, Int.toNat_natCast, hc, e46, ec, Bool.not_false, h40, hc46, Bool.true_and, Bool.false_or]
    cases atomC c with
    | true => simp only [evL_op, evL_sel, evL_nx, evL_exit, evL_ret, evL_join, evL_block, evL_cond, evK_some, evJ_nx, evJ_rt, evJ_ex, evB_nx, evB_rt, evB_ex, evC2_bool, evS_and, evS_or, evS_tf, evS_ft, ev_t, ev_s, ev_c, evalOp, bin_add, bin_sub, bin_mul, bin_eql, bin_neq, bin_lss, bin_leq, bin_gtr, bin_geq, sbin_eql, sbin_neq, b8, List.map_cons, List.map_nil, PV.rens, PV.ren, if_true, if_false, Bool.false_eq_true, reduceIte, Bool.not_true, hw]
    | false => simp only [evL_op, evL_sel, evL_nx, evL_exit, evL_ret, evL_join, evL_block, evL_cond, evK_some, evJ_nx, evJ_rt, evJ_ex, evB_nx, evB_rt, evB_ex, evC2_bool, evS_and, evS_or, evS_tf, evS_ft, ev_t, ev_s, ev_c, evalOp, bin_add, bin_sub, bin_mul, bin_eql, bin_neq, bin_lss, bin_leq, bin_gtr, bin_geq, sbin_eql, sbin_neq, b8, List.map_cons, List.map_nil, PV.rens, PV.ren, if_true, if_false, Bool.false_eq_true, reduceIte, Bool.not_false]
theorem loop30 (k0 : Nat) (s : List UInt8) (hs : s.length ≤ 9000000000000000000) : ∀ (j i : Nat) (pd : Bool), i + j = s.length → ((i = 0 ∧ pd = false ∧ s.head? ≠ some 46) ∨ (1 ≤ i ∧ ∃ p, s[i - 1]? = some p ∧ pd = (p == 46))) → ∀ k, j < k →
    loopL 0 (evL T k0 q30_1) k [.str s, .int .i64 i] [] = if lp pd (s.drop i) = true then some (.ex 0, [], []) else some (.rt, [.bool false], [])
  | j, i, pd, hij, _, 0, hk => by omega
  | 0, i, pd, hij, _, k + 1, _ => by
    have h1 : ¬ ((i : Int) < s.length) := by omega
    have h2 : s.drop i = [] := List.drop_of_length_le (by omega)
    have h3 : evL T k0 q30_1 [.str s, .int .i64 i] [] = some (.ex 0, [], []) := by simp only [q30_1, evL_op, evL_sel, evL_nx, evL_exit, evL_ret, evL_join, evL_block, evL_cond, evK_some, evJ_nx, evJ_rt, evJ_ex, evB_nx, evB_rt, evB_ex, evC2_bool, evS_and, evS_or, evS_tf, evS_ft, ev_t, ev_s, ev_c, evalOp, bin_add, bin_sub, bin_mul, bin_eql, bin_neq, bin_lss, bin_leq, bin_gtr, bin_geq, sbin_eql, sbin_neq, b8, List.map_cons, List.map_nil, PV.rens, PV.ren, if_true, if_false, Bool.false_eq_true, reduceIte, h1, decide_false]
    rw [loopL_succ, head0 (env := [.str s, .int .i64 i]) rfl, h3, h2]
    rfl
  | j + 1, i, pd, hij, hp, k + 1, hk => by
    have hi : i < s.length := by omega
    have hc : s[i]? = some s[i] := List.getElem?_eq_getElem hi
    have hb := body30 k0 s hs i s[i] pd hc (by
      rcases hp with ⟨h0, _, h2⟩ | h
      · refine .inl ⟨h0, fun e => h2 ?_⟩
        subst h0
        rw [List.head?_eq_getElem?, hc, e]
      · exact .inr h)
    rw [loopL_succ, head0 (env := [.str s, .int .i64 i]) rfl, hb, List.drop_eq_getElem_cons hi]
    unfold lp
    have hd : (if s[i] = 46 then !pd else atomC s[i]) = true ∨ (if s[i] = 46 then !pd else atomC s[i]) = false := by cases (if s[i] = 46 then !pd else atomC s[i]) <;> simp
    rcases hd with hd | hd
    · rw [hd]
      simp only [if_true, Bool.true_and]
      exact loop30 k0 s hs j (i + 1) (s[i] == 46) (by omega) (.inr ⟨by omega, s[i], by simpa using hc, rfl⟩) k (by omega)
    · rw [hd]
      simp only [Bool.false_eq_true, if_false, Bool.false_and]
theorem T30 (s : List UInt8) (hs : s.length ≤ 9000000000000000000) : T 30 [.str s] [] = some (.bool (parts s 64 atom), []) := by
  refine evT_of (k := s.length + 1) (F := l30) (H' := []) (e := [.bool (parts s 64 atom)]) (l := [.bool (parts s 64 atom)]) rfl rfl rfl ?_ rfl rfl
  show evL T (s.length + 1) q30 _ _ = _
  have h34 := T34 s.length 1 64
  rw [parts_ref]
  by_cases hb : (decide ((1 : Int) ≤ s.length) && decide ((s.length : Int) ≤ 64)) = true
  · have hb2 := hb
    rw [hb] at h34
    cases s with
    | nil => simp at hb
    | cons a r =>
      have hidx : (a :: r)[Int.toNat 0]? = some a := rfl
      obtain ⟨z, hz⟩ : ∃ z, (a :: r).getLast? = some z := ⟨_, List.getLast?_eq_some_getLast (by simp)⟩
      have hz' : (a :: r)[(a :: r).length - 1]? = some z := by rw [← List.getLast?_eq_getElem?]; exact hz
      have hw : IntKind.i64.wrap (((a :: r).length : Int) - 1) = (((a :: r).length - 1 : Nat) : Int) := by
        rw [IntWalk.i64_in _ (by simp only [List.length_cons] at hs ⊢; omega)]; simp only [List.length_cons]; omega
      have ea : decide ((a.toNat : Int) = 46) = (a == 46) := byte_eqn a 46 (by omega)
      have ez : decide ((z.toNat : Int) = 46) = (z == 46) := byte_eqn z 46 (by omega)
      have h0 : evL T ((a :: r).length + 1) q30 [.str (a :: r)] [] = if ((a == 46) || (z == 46)) = true then some (.rt, [.bool false], []) else evJ T ((a :: r).length + 1) q30_2 (evB 0 (loopL 0 (evL T ((a :: r).length + 1) q30_1) ((a :: r).length + 1) [.str (a :: r), .int .i64 (0 : Nat)] [])) := by
        have e0 : ((0 : Nat) : Int) = 0 := rfl
        rw [e0]
        simp only [q30, evL_op, evL_sel, evL_nx, evL_exit, evL_ret, evL_join, evL_block, evL_cond, evK_some, evJ_nx, evJ_rt, evJ_ex, evB_nx, evB_rt, evB_ex, evC2_bool, evS_and, evS_or, evS_tf, evS_ft, ev_t, ev_s, ev_c, evalOp, bin_add, bin_sub, bin_mul, bin_eql, bin_neq, bin_lss, bin_leq, bin_gtr, bin_geq, sbin_eql, sbin_neq, b8, List.map_cons, List.map_nil, PV.rens, PV.ren, if_true, if_false, Bool.false_eq_true, reduceIte, h34, Bool.not_true, Int.le_refl, hidx, hw, Int.natCast_nonneg, Int.toNat_natCast, hz', ea, ez, evL_loop, List.length_nil, Bool.false_or]
      rw [h0, hb2, List.head?_cons, hz]
      simp only [Option.some_beq_some, Bool.true_and]
      cases ha : (a == 46) with
      | true => rfl
      | false =>
        cases hzz : (z == 46) with
        | true => rfl
        | false =>
          have hl := loop30 ((a :: r).length + 1) (a :: r) hs (a :: r).length 0 false (by omega) (.inl ⟨rfl, rfl, by simp; simpa using ha⟩) ((a :: r).length + 1) (by omega)
          rw [hl, List.drop_zero]
          cases lp false (a :: r) <;> rfl
  · have hb' : (decide ((1 : Int) ≤ s.length) && decide ((s.length : Int) ≤ 64)) = false := by simpa using hb
    rw [hb'] at h34
    rw [hb']
    simp only [Bool.false_and, q30, evL_op, evL_sel, evL_nx, evL_exit, evL_ret, evL_join, evL_block, evL_cond, evK_some, evJ_nx, evJ_rt, evJ_ex, evB_nx, evB_rt, evB_ex, evC2_bool, evS_and, evS_or, evS_tf, evS_ft, ev_t, ev_s, ev_c, evalOp, bin_add, bin_sub, bin_mul, bin_eql, bin_neq, bin_lss, bin_leq, bin_gtr, bin_geq, sbin_eql, sbin_neq, b8, List.map_cons, List.map_nil, PV.rens, PV.ren, if_true, if_false, Bool.false_eq_true, reduceIte, h34, Bool.not_false]
end Go.Proofs.YtgilfigaimndkaaDoor.Tab
