/- SpoolChunks: it is true. -/
import Derived.Test.YtnljpfjoboafoaaDoorMe
namespace Go.Proofs.YtnljpfjoboafoaaDoor.Tab
set_option linter.all false
open Go Go.RowKit Go.Proofs.YtnljpfjoboafoaaDoor.Ev
def chR (num : Int) (off : Int) (d : List UInt8) : Rc := ⟨5, noM, 0, [], 0, num, off, d⟩
structure CInv (num : Int) (want : List UInt8) (s : Spl) : Prop where
  it : s.items = []
  se : s.sent = []
  dn : s.done = []
  pk : s.packs = 0
  pl : s.part.length ≤ 3000
  on : want ≠ [] → s.of_ = num ∧ s.part = want
  off : s.of_ = num ∨ (s.part = [] ∧ s.of_ = -1)
theorem CInv.roomy {num : Int} {want : List UInt8} {s : Spl} (h : CInv num want s) : Roomy s ∧ FitsS s := by
  refine ⟨⟨by rw [h.it]; decide, by rw [h.se]; decide, by rw [h.dn]; decide, by have := h.pl; omega, by rw [h.pk]; decide, by rw [h.pk]; decide, by rw [h.dn]; exact List.Pairwise.nil⟩, ⟨fun x hx => (by rw [h.it] at hx; cases hx), by have := h.pl; omega⟩⟩
theorem CInv.step {num : Int} {want d : List UInt8} {s : Spl} (h : CInv num want s) (hn : 1 ≤ num ∧ num ≤ 65535) (hd : 1 ≤ d.length ∧ d.length ≤ 48) (hw : want.length ≤ 2900) : ∃ s', addS s (chR num want.length d) = some s' ∧ CInv num (want ++ d) s' := by
  have hp : plainR (chR num want.length d) = true := by simp [plainR, chR]
  have hc : comesS s num = true := by unfold comesS; rw [h.dn]; simp [hn.1, hn.2]
  have hd0 : d ≠ [] := fun e => by rw [e] at hd; simp at hd
  have e1 : addS s (chR num want.length d) = chunkS s (chR num want.length d) := by
    unfold addS
    rw [if_pos hp]
    rfl
  rw [e1]
  unfold chunkS
  have hg : (comesS s (chR num want.length d).number && decide ((1 : Int) ≤ (chR num want.length d).data.length) && decide (((chR num want.length d).data.length : Int) ≤ 48)) = true := by
    show (comesS s num && decide ((1 : Int) ≤ d.length) && decide ((d.length : Int) ≤ 48)) = true
    rw [hc, decide_eq_true (by omega), decide_eq_true (by omega)]; rfl
  rw [if_pos hg]
  by_cases h0 : want = []
  · subst h0
    rw [if_pos (by rfl)]
    exact ⟨_, rfl, h.it, h.se, h.dn, h.pk, by show d.length ≤ 3000; omega, fun _ => ⟨rfl, rfl⟩, .inl rfl⟩
  · obtain ⟨o1, o2⟩ := h.on h0
    have hwl : 0 < want.length := List.length_pos_iff.2 h0
    rw [if_neg (by show ¬ ((want.length : Int) = 0); omega), if_pos ⟨o1, by rw [o2]; rfl, by rw [o2]; show (d.length : Int) ≤ 5000 - want.length; omega⟩]
    exact ⟨_, rfl, h.it, h.se, h.dn, h.pk, by show (s.part ++ d).length ≤ 3000; rw [o2, List.length_append]; omega, fun _ => ⟨o1, by show s.part ++ d = _; rw [o2]⟩, .inl o1⟩
abbrev slE (l : List (List UInt8)) : PV := .sl .no 1 l.length (l.map fun d => sl8 d)
theorem slE_get {l : List (List UInt8)} {i : Nat} (h : i < l.length) : ((l.map fun d => sl8 d).drop i).take 1 = [sl8 l[i]] := map_get (f := fun d => sl8 d) h
theorem chunk_body {num : Int} {l : List (List UInt8)} {ag : PV} {kv : Int} {i : Nat} {s : Spl} {want : List UInt8} {w : PV} {H : Hp} (hn : 1 ≤ num ∧ num ≤ 65535) (hlt : i < l.length) (hl : l.length ≤ 60) (hl2 : 1 ≤ H.length) (hd : 1 ≤ l[i].length ∧ l[i].length ≤ 48) (hw : want.length ≤ 2900) (hs : CInv num want s) (hv : SV H s) (hT : TokAt H w want) (k0 : Nat) :
    ∃ w' H' s', evL T k0 q5_1 [.int .i64 num, slE l, ag, .ptr 0 0, w, .int .i64 kv, .int .i64 i] H = some (.nx, [.int .i64 num, slE l, ag, .ptr 0 0, w', .int .i64 kv, .int .i64 ((i + 1 : Nat) : Int)], H') ∧ SV H' s' ∧ TokAt H' w' (want ++ l[i]) ∧ CInv num (want ++ l[i]) s' ∧ H.length ≤ H'.length := by
  obtain ⟨s', ha, hs'⟩ := hs.step hn hd hw
  obtain ⟨hk, hf⟩ := hs.roomy
  obtain ⟨cs, hc, hS⟩ := hv
  obtain ⟨l6, o6⟩ := hS.one
  have t6 : cs.take 6 = cs := List.take_of_length_le (by omega)
  have f1 : (i : Int) < l.length := by omega
  have w1 := evw1 (show i ≤ 1000000 by omega)
  have hg := slE_get hlt
  generalize l[i] = d at *
  have g1 : ¬ (d.length : Int) < 1 := by omega
  have g2 : ¬ (48 : Int) < d.length := by omega
  have hR : RecR (chR num want.length d) [.int .i64 5, .bool false, .str [], .str [], .sl .nil 0 0 [], .sl .nil 0 0 [], .bool false, .str [], .int .i64 0, .int .i64 0, .sl .nil 0 0 [], .int .i64 0, .int .i64 num, .int .i64 want.length, sl8 d] := ⟨_, _, _, _, rfl, LS.nil 3, LS.nil 1, LS.nil 1, LS.no _ _ _⟩
  have hFits : Fits (chR num want.length d) := ⟨Nat.zero_le _, Nat.zero_le _, Nat.zero_le _, by show d.length ≤ _; omega⟩
  have hSh : Shorts (chR num want.length d) := ⟨by show 0 + 0 < 4294967281; decide, fun p hp => by cases hp⟩
  obtain ⟨x, Hx, c17, cs', hx, hS'⟩ := T_Add hS.none hR hFits hSh hk hf
  unfold addO at hx hS'
  rw [ha] at hx hS'
  dsimp only at hx hS'
  obtain ⟨m6, p6⟩ := hS'.t.one
  have u6 : cs'.take 6 = cs' := List.take_of_length_le (by omega)
  have d6 : cs.drop 6 = [] := List.drop_eq_nil_of_le (by omega)
  have hrm : (want.length + d.length) * 1 ≤ roomMax := by unfold roomMax; omega
  have hrm0 : d.length ≤ roomMax := by unfold roomMax; omega
  have hrm1 : want.length + d.length ≤ roomMax := by unfold roomMax; omega
  have h0 : 0 < H.length := by omega
  have hb : ∀ (Y : Hp) o, (H ++ Y).set H.length o = H ++ Y.set 0 o := fun Y o => by rw [List.set_append_right _ _ (Nat.le_refl _), Nat.sub_self]
  have hbx : ∀ o Y, (H ++ o :: Y)[H.length]? = some o := fun o Y => by rw [List.getElem?_append_right (Nat.le_refl _), Nat.sub_self]; rfl
  have h0x : ∀ Y : Hp, (H ++ Y)[0]? = some (.cells cs) := fun Y => (List.getElem?_append_left (by omega)).trans hc
  rcases hT with ⟨hw0, rfl⟩ | ⟨k, z, rfl, hz, hkt⟩
  · refine ⟨.sl (.tok (H.length + 1)) 1 d.length (d.map b8), (H ++ [Ob.cells cs', Ob.tok]).set 0 (.cells cs'), s', ?_, ⟨cs', List.getElem?_set_self (by simp), hS'.t⟩, .inr ⟨H.length + 1, 1, by rw [hw0]; rfl, .inl rfl, ?_⟩, hs', by simp⟩
    · simp only [hw0, List.length_nil, sl8] at c17
      simp only [slE, q5_1, q5_0, evL_op, evL_sel, evL_nx, evL_exit, evL_ret, evL_join, evL_block, evL_cond, evK_some, evJ_nx, evJ_rt, evJ_ex, evB_nx, evB_rt, evB_ex, evC2_bool, evS_and, evS_or, evS_tf, evS_ft, ev_t, ev_s, ev_c, evalOp, bin_add, bin_sub, bin_mul, bin_eql, bin_neq, bin_lss, bin_leq, bin_gtr, bin_geq, sbin_eql, sbin_neq, b8, List.map_cons, List.map_nil, PV.rens, PV.ren, if_true, if_false, Bool.false_eq_true, reduceIte, Nat.reduceAdd, Nat.reduceSub, Nat.reduceMul, Nat.reduceEqDiff, Nat.reduceLeDiff, Int.reduceLE, Int.reduceLT, Int.reduceEq, Int.reduceToNat, Int.reduceAdd, Int.reduceSub, Int.reduceNeg, decide_true, decide_false, Bool.not_true, Bool.not_false, Bool.true_and, Bool.false_and, Bool.and_true, Bool.and_false, Bool.or_true, Bool.true_or, Bool.or_false, Bool.false_or, and_self, and_true, true_and, Nat.le_refl, Nat.zero_add, Nat.mul_one, Nat.one_ne_zero, Nat.zero_le, highP, lowP, Option.map_some, Option.map_none, List.drop_zero, List.take_zero, List.length_cons, List.length_nil, List.nil_append, List.append_nil, List.cons_append, fillP, PV.cells?, PV.one, PV.cleans, PV.clean, PV.of?, List.all_cons, List.all_nil, List.take_succ_cons, List.drop_succ_cons, Bool.and_self, Int.natCast_nonneg, Int.toNat_natCast, Int.toNat_zero, PV.of?, Tk.ren, tailP, evL_loop, or_true, true_or, Nat.zero_lt_one, Nat.sub_zero, List.getElem?_cons_zero, List.getElem?_cons_succ, List.set_cons_zero, List.set_cons_succ, List.take_length, tailP, PV.rens, PV.ren, sl8, f1, g1, g2, w1, hg, hc, l6, t6, o6, c17, hx, hb, hbx, h0x, m6, p6, u6, d6, hrm0, List.append_assoc, List.length_append]
    · rw [List.getElem?_set_ne (by omega), List.getElem?_append_right (by omega)]
      simp
  · have hkl := (List.getElem?_eq_some_iff.1 hkt).1
    have hk0 : k ≠ 0 := fun e => by rw [e, hc] at hkt; cases hkt
    have hz' : z = 1 ∨ z = 0 := hz.imp_right (·.1)
    have hkx : ∀ Y : Hp, (H ++ Y)[k]? = some .tok := fun Y => (List.getElem?_append_left hkl).trans hkt
    have hks : ∀ (Y : Hp) o, (H ++ Y).set k o = H.set k o ++ Y := fun Y o => List.set_append_left _ _ hkl
    have h0k : ∀ (Y : Hp) o, (H.set k o ++ Y)[0]? = some (.cells cs) := fun Y o => (List.getElem?_append_left (by simp; omega)).trans ((List.getElem?_set_ne hk0).trans hc)
    refine ⟨.sl (.tok (H.length + 1)) 1 (want.length + d.length) (want.map b8 ++ d.map b8), (H.set k .dead ++ [Ob.cells cs', Ob.tok]).set 0 (.cells cs'), s', ?_, ⟨cs', List.getElem?_set_self (by simp), hS'.t⟩, .inr ⟨H.length + 1, 1, by rw [List.length_append, List.map_append], .inl rfl, ?_⟩, hs', by simp⟩
    · simp only [sl8] at c17
      simp only [slE, q5_1, q5_0, evL_op, evL_sel, evL_nx, evL_exit, evL_ret, evL_join, evL_block, evL_cond, evK_some, evJ_nx, evJ_rt, evJ_ex, evB_nx, evB_rt, evB_ex, evC2_bool, evS_and, evS_or, evS_tf, evS_ft, ev_t, ev_s, ev_c, evalOp, bin_add, bin_sub, bin_mul, bin_eql, bin_neq, bin_lss, bin_leq, bin_gtr, bin_geq, sbin_eql, sbin_neq, b8, List.map_cons, List.map_nil, PV.rens, PV.ren, if_true, if_false, Bool.false_eq_true, reduceIte, Nat.reduceAdd, Nat.reduceSub, Nat.reduceMul, Nat.reduceEqDiff, Nat.reduceLeDiff, Int.reduceLE, Int.reduceLT, Int.reduceEq, Int.reduceToNat, Int.reduceAdd, Int.reduceSub, Int.reduceNeg, decide_true, decide_false, Bool.not_true, Bool.not_false, Bool.true_and, Bool.false_and, Bool.and_true, Bool.and_false, Bool.or_true, Bool.true_or, Bool.or_false, Bool.false_or, and_self, and_true, true_and, Nat.le_refl, Nat.zero_add, Nat.mul_one, Nat.one_ne_zero, Nat.zero_le, highP, lowP, Option.map_some, Option.map_none, List.drop_zero, List.take_zero, List.length_cons, List.length_nil, List.nil_append, List.append_nil, List.cons_append, fillP, PV.cells?, PV.one, PV.cleans, PV.clean, PV.of?, List.all_cons, List.all_nil, List.take_succ_cons, List.drop_succ_cons, Bool.and_self, Int.natCast_nonneg, Int.toNat_natCast, Int.toNat_zero, PV.of?, Tk.ren, tailP, evL_loop, or_true, true_or, Nat.zero_lt_one, Nat.sub_zero, List.getElem?_cons_zero, List.getElem?_cons_succ, List.set_cons_zero, List.set_cons_succ, List.take_length, tailP, PV.rens, PV.ren, sl8, f1, g1, g2, w1, hg, hc, l6, t6, o6, c17, hx, hb, hbx, h0x, hkx, hks, h0k, hz', m6, p6, u6, d6, hrm1, List.append_assoc, List.length_append]
    · rw [List.getElem?_set_ne (by omega), List.getElem?_append_right (by simp)]
      simp
theorem SV.head7 {H : Hp} {n : Nat} {s : Spl} {a0 a1 a2 w a5 a6 : PV} {want : List UInt8} (h : SV H s) (hw : TokAt H w want) (hn : n ≤ H.length) (h0 : 0 < n) (he : [a0, a1, a2, a5, a6].all flat = true) :
    ∃ w' H', headS n [a0, a1, a2, .ptr 0 0, w, a5, a6] H = ([a0, a1, a2, .ptr 0 0, w', a5, a6], H') ∧ SV H' s ∧ TokAt H' w' want ∧ n ≤ H'.length := by
  simp only [List.all_cons, List.all_nil, Bool.and_true, Bool.and_eq_true] at he
  obtain ⟨e0, e1, e2, e5, e6⟩ := he
  obtain ⟨env', H', h1, h2, h3, h4, h5⟩ := h.head (env := [a0, a1, a2, .ptr 0 0, w, a5, a6]) hn h0 (fun x hx => by
    simp only [List.mem_cons, List.not_mem_nil, or_false] at hx
    rcases hx with rfl | rfl | rfl | rfl | rfl | rfl | rfl
    · exact .inl e0
    · exact .inl e1
    · exact .inl e2
    · exact .inr (.inl rfl)
    · exact .inr (.inr ⟨_, hw⟩)
    · exact .inl e5
    · exact .inl e6)
  match env', h4 with
  | [y0, y1, y2, y3, y4, y5, y6], _ =>
    have g0 := (h5 0 _ rfl).1 (.inl e0)
    have g1 := (h5 1 _ rfl).1 (.inl e1)
    have g2 := (h5 2 _ rfl).1 (.inl e2)
    have g3 := (h5 3 _ rfl).1 (.inr rfl)
    obtain ⟨w', g4, hw'⟩ := (h5 4 _ rfl).2 _ hw
    have g5 := (h5 5 _ rfl).1 (.inl e5)
    have g6 := (h5 6 _ rfl).1 (.inl e6)
    simp only [List.getElem?_cons_zero, List.getElem?_cons_succ, Option.some.injEq] at g0 g1 g2 g3 g4 g5 g6
    subst g0; subst g1; subst g2; subst g3; subst g4; subst g5; subst g6
    exact ⟨_, H', h1, h2, hw', h3⟩
theorem SV.head6 {H : Hp} {n : Nat} {s : Spl} {a0 a1 a2 w a5 : PV} {want : List UInt8} (h : SV H s) (hw : TokAt H w want) (hn : n ≤ H.length) (h0 : 0 < n) (he : [a0, a1, a2, a5].all flat = true) :
    ∃ w' H', headS n [a0, a1, a2, .ptr 0 0, w, a5] H = ([a0, a1, a2, .ptr 0 0, w', a5], H') ∧ SV H' s ∧ TokAt H' w' want ∧ n ≤ H'.length := by
  simp only [List.all_cons, List.all_nil, Bool.and_true, Bool.and_eq_true] at he
  obtain ⟨e0, e1, e2, e5⟩ := he
  obtain ⟨env', H', h1, h2, h3, h4, h5⟩ := h.head (env := [a0, a1, a2, .ptr 0 0, w, a5]) hn h0 (fun x hx => by
    simp only [List.mem_cons, List.not_mem_nil, or_false] at hx
    rcases hx with rfl | rfl | rfl | rfl | rfl | rfl
    · exact .inl e0
    · exact .inl e1
    · exact .inl e2
    · exact .inr (.inl rfl)
    · exact .inr (.inr ⟨_, hw⟩)
    · exact .inl e5)
  match env', h4 with
  | [y0, y1, y2, y3, y4, y5], _ =>
    have g0 := (h5 0 _ rfl).1 (.inl e0)
    have g1 := (h5 1 _ rfl).1 (.inl e1)
    have g2 := (h5 2 _ rfl).1 (.inl e2)
    have g3 := (h5 3 _ rfl).1 (.inr rfl)
    obtain ⟨w', g4, hw'⟩ := (h5 4 _ rfl).2 _ hw
    have g5 := (h5 5 _ rfl).1 (.inl e5)
    simp only [List.getElem?_cons_zero, List.getElem?_cons_succ, Option.some.injEq] at g0 g1 g2 g3 g4 g5
    subst g0; subst g1; subst g2; subst g3; subst g4; subst g5
    exact ⟨_, H', h1, h2, hw', h3⟩
theorem CInv.again {num : Int} {want : List UInt8} {s : Spl} (h : CInv num want s) : CInv num [] s := ⟨h.it, h.se, h.dn, h.pk, h.pl, fun e => absurd rfl e, h.off⟩
theorem chunk_loop {num : Int} {l : List (List UInt8)} {ag : Bool} {kv : Int} {s : Spl} {H : Hp} {n : Nat} (hn : 1 ≤ num ∧ num ≤ 65535) (hl : l.length ≤ 60) (h0 : 0 < n) (hnl : n ≤ H.length) (hs : CInv num [] s) (hv : SV H s) (k0 kk : Nat) (hkk : l.length < kk) :
    ∃ r, loopL n (evL T k0 q5_1) kk [.int .i64 num, slE l, .bool ag, .ptr 0 0, .sl .nil 0 0 [], .int .i64 kv, .int .i64 0] H = some r ∧
      ((∃ H', r = (.rt, [.bool true], H')) ∨ ∃ w H' s', r = (.ex 2, [.int .i64 num, slE l, .bool ag, .ptr 0 0, w, .int .i64 kv], H') ∧ SV H' s' ∧ TokAt H' w l.flatten ∧ CInv num l.flatten s' ∧ n ≤ H'.length ∧ l.length ≤ l.flatten.length) := by
  have hT0 : TokAt H (.sl .nil 0 0 []) [] := .inl ⟨rfl, rfl⟩
  obtain ⟨w0, H0, e1, e2, e3, e4⟩ := hv.head7 (a0 := .int .i64 num) (a1 := slE l) (a2 := .bool ag) (a5 := .int .i64 kv) (a6 := .int .i64 (0 : Nat)) hT0 hnl h0 rfl
  refine loop_post (n := n) (body := evL T k0 q5_1) (σ := Nat × PV × Hp) (fun σ => [.int .i64 num, slE l, .bool ag, .ptr 0 0, σ.2.1, .int .i64 kv, .int .i64 σ.1]) (fun σ => σ.2.2) (fun σ => l.length - σ.1)
    (fun σ => σ.1 ≤ l.length ∧ (l.take σ.1).flatten.length ≤ 48 * σ.1 ∧ σ.1 ≤ (l.take σ.1).flatten.length ∧ n ≤ σ.2.2.length ∧ ∃ s, SV σ.2.2 s ∧ TokAt σ.2.2 σ.2.1 (l.take σ.1).flatten ∧ CInv num (l.take σ.1).flatten s) _ ?_ kk (0, w0, H0) _ _ e1 ⟨Nat.zero_le _, Nat.le_refl _, Nat.le_refl _, e4, s, e2, e3, hs⟩ (by simpa using hkk)
  rintro ⟨i, w, H1⟩ ⟨hi, hb, hb2, hl1, s1, g1, g2, g3⟩
  dsimp only at hi hb hb2 hl1 g1 g2 g3 ⊢
  rcases Nat.lt_or_ge i l.length with hlt | hge
  · by_cases hd : 1 ≤ l[i].length ∧ l[i].length ≤ 48
    · obtain ⟨w', H', s', q1, q2, q3, q4, q5⟩ := chunk_body (ag := .bool ag) (kv := kv) hn hlt hl (by omega) hd (by omega) g3 g1 g2 k0
      have hfl : (l.take (i + 1)).flatten = (l.take i).flatten ++ l[i] := by rw [List.take_succ_eq_append_getElem hlt, List.flatten_append, List.flatten_cons, List.flatten_nil, List.append_nil]
      obtain ⟨w2, H2, r1, r2, r3, r4⟩ := q2.head7 (n := n) (a0 := .int .i64 num) (a1 := slE l) (a2 := .bool ag) (a5 := .int .i64 kv) (a6 := .int .i64 ((i + 1 : Nat) : Int)) q3 (by omega) h0 rfl
      exact .inr ⟨(i + 1, w2, H2), _, H', q1, r1, ⟨hlt, by dsimp only; rw [hfl, List.length_append]; omega, by dsimp only; rw [hfl, List.length_append]; omega, r4, s', r2, by dsimp only; rw [hfl]; exact r3, by dsimp only; rw [hfl]; exact q4⟩, by dsimp only; omega⟩
    · have f1 : (i : Int) < l.length := by omega
      have hg := slE_get hlt
      refine .inl ⟨(.rt, [.bool true], H1), ?_, by simp, .inl ⟨H1, rfl⟩⟩
      generalize l[i] = d at *
      by_cases h1 : (d.length : Int) < 1
      · simp only [slE, q5_1, evL_op, evL_sel, evL_nx, evL_exit, evL_ret, evL_join, evL_block, evL_cond, evK_some, evJ_nx, evJ_rt, evJ_ex, evB_nx, evB_rt, evB_ex, evC2_bool, evS_and, evS_or, evS_tf, evS_ft, ev_t, ev_s, ev_c, evalOp, bin_add, bin_sub, bin_mul, bin_eql, bin_neq, bin_lss, bin_leq, bin_gtr, bin_geq, sbin_eql, sbin_neq, b8, List.map_cons, List.map_nil, PV.rens, PV.ren, if_true, if_false, Bool.false_eq_true, reduceIte, Nat.reduceAdd, Nat.reduceSub, Nat.reduceMul, Nat.reduceEqDiff, Nat.reduceLeDiff, Int.reduceLE, Int.reduceLT, Int.reduceEq, Int.reduceToNat, Int.reduceAdd, Int.reduceSub, Int.reduceNeg, decide_true, decide_false, Bool.not_true, Bool.not_false, Bool.true_and, Bool.false_and, Bool.and_true, Bool.and_false, Bool.or_true, Bool.true_or, Bool.or_false, Bool.false_or, and_self, and_true, true_and, Nat.le_refl, Nat.zero_add, Nat.mul_one, Nat.one_ne_zero, Nat.zero_le, highP, lowP, Option.map_some, Option.map_none, List.drop_zero, List.take_zero, List.length_cons, List.length_nil, List.nil_append, List.append_nil, List.cons_append, fillP, PV.cells?, PV.one, PV.cleans, PV.clean, PV.of?, List.all_cons, List.all_nil, List.take_succ_cons, List.drop_succ_cons, Bool.and_self, Int.natCast_nonneg, Int.toNat_natCast, Int.toNat_zero, PV.of?, Tk.ren, tailP, evL_loop, or_true, true_or, Nat.zero_lt_one, Nat.sub_zero, List.getElem?_cons_zero, List.getElem?_cons_succ, List.set_cons_zero, List.set_cons_succ, List.take_length, sl8, f1, hg, h1]
      · have h2 : (48 : Int) < d.length := by omega
        simp only [slE, q5_1, evL_op, evL_sel, evL_nx, evL_exit, evL_ret, evL_join, evL_block, evL_cond, evK_some, evJ_nx, evJ_rt, evJ_ex, evB_nx, evB_rt, evB_ex, evC2_bool, evS_and, evS_or, evS_tf, evS_ft, ev_t, ev_s, ev_c, evalOp, bin_add, bin_sub, bin_mul, bin_eql, bin_neq, bin_lss, bin_leq, bin_gtr, bin_geq, sbin_eql, sbin_neq, b8, List.map_cons, List.map_nil, PV.rens, PV.ren, if_true, if_false, Bool.false_eq_true, reduceIte, Nat.reduceAdd, Nat.reduceSub, Nat.reduceMul, Nat.reduceEqDiff, Nat.reduceLeDiff, Int.reduceLE, Int.reduceLT, Int.reduceEq, Int.reduceToNat, Int.reduceAdd, Int.reduceSub, Int.reduceNeg, decide_true, decide_false, Bool.not_true, Bool.not_false, Bool.true_and, Bool.false_and, Bool.and_true, Bool.and_false, Bool.or_true, Bool.true_or, Bool.or_false, Bool.false_or, and_self, and_true, true_and, Nat.le_refl, Nat.zero_add, Nat.mul_one, Nat.one_ne_zero, Nat.zero_le, highP, lowP, Option.map_some, Option.map_none, List.drop_zero, List.take_zero, List.length_cons, List.length_nil, List.nil_append, List.append_nil, List.cons_append, fillP, PV.cells?, PV.one, PV.cleans, PV.clean, PV.of?, List.all_cons, List.all_nil, List.take_succ_cons, List.drop_succ_cons, Bool.and_self, Int.natCast_nonneg, Int.toNat_natCast, Int.toNat_zero, PV.of?, Tk.ren, tailP, evL_loop, or_true, true_or, Nat.zero_lt_one, Nat.sub_zero, List.getElem?_cons_zero, List.getElem?_cons_succ, List.set_cons_zero, List.set_cons_succ, List.take_length, sl8, f1, hg, h1, h2]
  · obtain rfl : i = l.length := by omega
    have f1 : ¬ (l.length : Int) < l.length := by omega
    rw [List.take_length] at g2 g3 hb2
    refine .inl ⟨(.ex 2, [.int .i64 num, slE l, .bool ag, .ptr 0 0, w, .int .i64 kv], H1), ?_, by simp, .inr ⟨w, H1, s1, rfl, g1, g2, g3, hl1, hb2⟩⟩
    simp only [slE, q5_1, evL_op, evL_sel, evL_nx, evL_exit, evL_ret, evL_join, evL_block, evL_cond, evK_some, evJ_nx, evJ_rt, evJ_ex, evB_nx, evB_rt, evB_ex, evC2_bool, evS_and, evS_or, evS_tf, evS_ft, ev_t, ev_s, ev_c, evalOp, bin_add, bin_sub, bin_mul, bin_eql, bin_neq, bin_lss, bin_leq, bin_gtr, bin_geq, sbin_eql, sbin_neq, b8, List.map_cons, List.map_nil, PV.rens, PV.ren, if_true, if_false, Bool.false_eq_true, reduceIte, Nat.reduceAdd, Nat.reduceSub, Nat.reduceMul, Nat.reduceEqDiff, Nat.reduceLeDiff, Int.reduceLE, Int.reduceLT, Int.reduceEq, Int.reduceToNat, Int.reduceAdd, Int.reduceSub, Int.reduceNeg, decide_true, decide_false, Bool.not_true, Bool.not_false, Bool.true_and, Bool.false_and, Bool.and_true, Bool.and_false, Bool.or_true, Bool.true_or, Bool.or_false, Bool.false_or, and_self, and_true, true_and, Nat.le_refl, Nat.zero_add, Nat.mul_one, Nat.one_ne_zero, Nat.zero_le, highP, lowP, Option.map_some, Option.map_none, List.drop_zero, List.take_zero, List.length_cons, List.length_nil, List.nil_append, List.append_nil, List.cons_append, fillP, PV.cells?, PV.one, PV.cleans, PV.clean, PV.of?, List.all_cons, List.all_nil, List.take_succ_cons, List.drop_succ_cons, Bool.and_self, Int.natCast_nonneg, Int.toNat_natCast, Int.toNat_zero, PV.of?, Tk.ren, tailP, evL_loop, or_true, true_or, Nat.zero_lt_one, Nat.sub_zero, List.getElem?_cons_zero, List.getElem?_cons_succ, List.set_cons_zero, List.set_cons_succ, List.take_length, f1]
theorem outer_loop {num : Int} {l : List (List UInt8)} {ag : Bool} {s : Spl} {H : Hp} (hn : 1 ≤ num ∧ num ≤ 65535) (hl : l.length ≤ 60) (hnl : H.length = 1) (hs : CInv num [] s) (hv : SV H s) (k0 kk : Nat) (hk0 : l.length < k0) (hkk : 2 < kk) :
    ∃ r, loopL 1 (evL T k0 q5_4) kk [.int .i64 num, slE l, .bool ag, .ptr 0 0, .sl .nil 0 0 [], .int .i64 0] H = some r ∧
      ((∃ H', r = (.rt, [.bool true], H')) ∨ ∃ w H' s', r = (.ex 0, [.int .i64 num, slE l, .ptr 0 0, w], H') ∧ SV H' s' ∧ TokAt H' w l.flatten ∧ CInv num l.flatten s' ∧ 1 ≤ H'.length ∧ l.length ≤ l.flatten.length) := by
  have hT0 : TokAt H (.sl .nil 0 0 []) [] := .inl ⟨rfl, rfl⟩
  obtain ⟨w0, H0, e1, e2, e3, e4⟩ := hv.head6 (n := 1) (a0 := .int .i64 num) (a1 := slE l) (a2 := .bool ag) (a5 := .int .i64 (0 : Nat)) hT0 (by omega) (by decide) rfl
  refine loop_post (n := 1) (body := evL T k0 q5_4) (σ := Nat × PV × Hp) (fun σ => [.int .i64 num, slE l, .bool ag, .ptr 0 0, σ.2.1, .int .i64 σ.1]) (fun σ => σ.2.2) (fun σ => 2 - σ.1)
    (fun σ => σ.1 ≤ 2 ∧ 1 ≤ σ.2.2.length ∧ ∃ s want, SV σ.2.2 s ∧ TokAt σ.2.2 σ.2.1 want ∧ CInv num want s ∧ (0 < σ.1 → want = l.flatten ∧ l.length ≤ l.flatten.length)) _ ?_ kk (0, w0, H0) _ _ e1 ⟨Nat.zero_le _, e4, s, [], e2, e3, hs, fun h => absurd h (Nat.lt_irrefl 0)⟩ (by simpa using hkk)
  rintro ⟨k, w, H1⟩ ⟨hk, hl1, s1, want, g1, g2, g3, g4⟩
  dsimp only at hk hl1 g1 g2 g3 g4 ⊢
  rcases Nat.lt_or_ge k 2 with hlt | hge
  · have f1 : (k : Int) < 2 := by omega
    have w1 := evw1 (show k ≤ 1000000 by omega)
    obtain ⟨r, lp, hr⟩ := chunk_loop (l := l) (ag := ag) (kv := k) (H := H1) (n := H1.length) hn hl (by omega) (Nat.le_refl _) g3.again g1 k0 k0 hk0
    rcases hr with ⟨H', rfl⟩ | ⟨w', H', s', rfl, q1, q2, q3, q4, q5⟩
    · refine .inl ⟨(.rt, [.bool true], H'), ?_, by simp, .inl ⟨H', rfl⟩⟩
      simp only [slE] at lp
      simp only [slE, q5_4, evL_op, evL_sel, evL_nx, evL_exit, evL_ret, evL_join, evL_block, evL_cond, evK_some, evJ_nx, evJ_rt, evJ_ex, evB_nx, evB_rt, evB_ex, evC2_bool, evS_and, evS_or, evS_tf, evS_ft, ev_t, ev_s, ev_c, evalOp, bin_add, bin_sub, bin_mul, bin_eql, bin_neq, bin_lss, bin_leq, bin_gtr, bin_geq, sbin_eql, sbin_neq, b8, List.map_cons, List.map_nil, PV.rens, PV.ren, if_true, if_false, Bool.false_eq_true, reduceIte, Nat.reduceAdd, Nat.reduceSub, Nat.reduceMul, Nat.reduceEqDiff, Nat.reduceLeDiff, Int.reduceLE, Int.reduceLT, Int.reduceEq, Int.reduceToNat, Int.reduceAdd, Int.reduceSub, Int.reduceNeg, decide_true, decide_false, Bool.not_true, Bool.not_false, Bool.true_and, Bool.false_and, Bool.and_true, Bool.and_false, Bool.or_true, Bool.true_or, Bool.or_false, Bool.false_or, and_self, and_true, true_and, Nat.le_refl, Nat.zero_add, Nat.mul_one, Nat.one_ne_zero, Nat.zero_le, highP, lowP, Option.map_some, Option.map_none, List.drop_zero, List.take_zero, List.length_cons, List.length_nil, List.nil_append, List.append_nil, List.cons_append, fillP, PV.cells?, PV.one, PV.cleans, PV.clean, PV.of?, List.all_cons, List.all_nil, List.take_succ_cons, List.drop_succ_cons, Bool.and_self, Int.natCast_nonneg, Int.toNat_natCast, Int.toNat_zero, PV.of?, Tk.ren, tailP, evL_loop, or_true, true_or, Nat.zero_lt_one, Nat.sub_zero, List.getElem?_cons_zero, List.getElem?_cons_succ, List.set_cons_zero, List.set_cons_succ, List.take_length, f1]
      rw [lp]
      rfl
    · cases ag with
      | false =>
        refine .inl ⟨(.ex 0, [.int .i64 num, slE l, .ptr 0 0, w'], H'), ?_, by simp, .inr ⟨w', H', s', rfl, q1, q2, q3, by omega, q5⟩⟩
        simp only [slE] at lp
        simp only [slE, q5_4, evL_op, evL_sel, evL_nx, evL_exit, evL_ret, evL_join, evL_block, evL_cond, evK_some, evJ_nx, evJ_rt, evJ_ex, evB_nx, evB_rt, evB_ex, evC2_bool, evS_and, evS_or, evS_tf, evS_ft, ev_t, ev_s, ev_c, evalOp, bin_add, bin_sub, bin_mul, bin_eql, bin_neq, bin_lss, bin_leq, bin_gtr, bin_geq, sbin_eql, sbin_neq, b8, List.map_cons, List.map_nil, PV.rens, PV.ren, if_true, if_false, Bool.false_eq_true, reduceIte, Nat.reduceAdd, Nat.reduceSub, Nat.reduceMul, Nat.reduceEqDiff, Nat.reduceLeDiff, Int.reduceLE, Int.reduceLT, Int.reduceEq, Int.reduceToNat, Int.reduceAdd, Int.reduceSub, Int.reduceNeg, decide_true, decide_false, Bool.not_true, Bool.not_false, Bool.true_and, Bool.false_and, Bool.and_true, Bool.and_false, Bool.or_true, Bool.true_or, Bool.or_false, Bool.false_or, and_self, and_true, true_and, Nat.le_refl, Nat.zero_add, Nat.mul_one, Nat.one_ne_zero, Nat.zero_le, highP, lowP, Option.map_some, Option.map_none, List.drop_zero, List.take_zero, List.length_cons, List.length_nil, List.nil_append, List.append_nil, List.cons_append, fillP, PV.cells?, PV.one, PV.cleans, PV.clean, PV.of?, List.all_cons, List.all_nil, List.take_succ_cons, List.drop_succ_cons, Bool.and_self, Int.natCast_nonneg, Int.toNat_natCast, Int.toNat_zero, PV.of?, Tk.ren, tailP, evL_loop, or_true, true_or, Nat.zero_lt_one, Nat.sub_zero, List.getElem?_cons_zero, List.getElem?_cons_succ, List.set_cons_zero, List.set_cons_succ, List.take_length, f1]
        rw [lp]
        simp only [q5_2, evL_op, evL_sel, evL_nx, evL_exit, evL_ret, evL_join, evL_block, evL_cond, evK_some, evJ_nx, evJ_rt, evJ_ex, evB_nx, evB_rt, evB_ex, evC2_bool, evS_and, evS_or, evS_tf, evS_ft, ev_t, ev_s, ev_c, evalOp, bin_add, bin_sub, bin_mul, bin_eql, bin_neq, bin_lss, bin_leq, bin_gtr, bin_geq, sbin_eql, sbin_neq, b8, List.map_cons, List.map_nil, PV.rens, PV.ren, if_true, if_false, Bool.false_eq_true, reduceIte, Nat.reduceAdd, Nat.reduceSub, Nat.reduceMul, Nat.reduceEqDiff, Nat.reduceLeDiff, Int.reduceLE, Int.reduceLT, Int.reduceEq, Int.reduceToNat, Int.reduceAdd, Int.reduceSub, Int.reduceNeg, decide_true, decide_false, Bool.not_true, Bool.not_false, Bool.true_and, Bool.false_and, Bool.and_true, Bool.and_false, Bool.or_true, Bool.true_or, Bool.or_false, Bool.false_or, and_self, and_true, true_and, Nat.le_refl, Nat.zero_add, Nat.mul_one, Nat.one_ne_zero, Nat.zero_le, highP, lowP, Option.map_some, Option.map_none, List.drop_zero, List.take_zero, List.length_cons, List.length_nil, List.nil_append, List.append_nil, List.cons_append, fillP, PV.cells?, PV.one, PV.cleans, PV.clean, PV.of?, List.all_cons, List.all_nil, List.take_succ_cons, List.drop_succ_cons, Bool.and_self, Int.natCast_nonneg, Int.toNat_natCast, Int.toNat_zero, PV.of?, Tk.ren, tailP, evL_loop, or_true, true_or, Nat.zero_lt_one, Nat.sub_zero, List.getElem?_cons_zero, List.getElem?_cons_succ, List.set_cons_zero, List.set_cons_succ, List.take_length]
      | true =>
        obtain ⟨w2, H2, r1, r2, r3, r4⟩ := q1.head6 (n := 1) (a0 := .int .i64 num) (a1 := slE l) (a2 := .bool true) (a5 := .int .i64 ((k + 1 : Nat) : Int)) q2 (by omega) (by decide) rfl
        refine .inr ⟨(k + 1, w2, H2), [.int .i64 num, slE l, .bool true, .ptr 0 0, w', .int .i64 ((k + 1 : Nat) : Int)], H', ?_, r1, ⟨hlt, r4, s', _, r2, r3, q3, fun _ => ⟨rfl, q5⟩⟩, by dsimp only; omega⟩
        simp only [slE] at lp
        simp only [slE, q5_4, evL_op, evL_sel, evL_nx, evL_exit, evL_ret, evL_join, evL_block, evL_cond, evK_some, evJ_nx, evJ_rt, evJ_ex, evB_nx, evB_rt, evB_ex, evC2_bool, evS_and, evS_or, evS_tf, evS_ft, ev_t, ev_s, ev_c, evalOp, bin_add, bin_sub, bin_mul, bin_eql, bin_neq, bin_lss, bin_leq, bin_gtr, bin_geq, sbin_eql, sbin_neq, b8, List.map_cons, List.map_nil, PV.rens, PV.ren, if_true, if_false, Bool.false_eq_true, reduceIte, Nat.reduceAdd, Nat.reduceSub, Nat.reduceMul, Nat.reduceEqDiff, Nat.reduceLeDiff, Int.reduceLE, Int.reduceLT, Int.reduceEq, Int.reduceToNat, Int.reduceAdd, Int.reduceSub, Int.reduceNeg, decide_true, decide_false, Bool.not_true, Bool.not_false, Bool.true_and, Bool.false_and, Bool.and_true, Bool.and_false, Bool.or_true, Bool.true_or, Bool.or_false, Bool.false_or, and_self, and_true, true_and, Nat.le_refl, Nat.zero_add, Nat.mul_one, Nat.one_ne_zero, Nat.zero_le, highP, lowP, Option.map_some, Option.map_none, List.drop_zero, List.take_zero, List.length_cons, List.length_nil, List.nil_append, List.append_nil, List.cons_append, fillP, PV.cells?, PV.one, PV.cleans, PV.clean, PV.of?, List.all_cons, List.all_nil, List.take_succ_cons, List.drop_succ_cons, Bool.and_self, Int.natCast_nonneg, Int.toNat_natCast, Int.toNat_zero, PV.of?, Tk.ren, tailP, evL_loop, or_true, true_or, Nat.zero_lt_one, Nat.sub_zero, List.getElem?_cons_zero, List.getElem?_cons_succ, List.set_cons_zero, List.set_cons_succ, List.take_length, f1]
        rw [lp]
        simp only [q5_2, q5_3, evL_op, evL_sel, evL_nx, evL_exit, evL_ret, evL_join, evL_block, evL_cond, evK_some, evJ_nx, evJ_rt, evJ_ex, evB_nx, evB_rt, evB_ex, evC2_bool, evS_and, evS_or, evS_tf, evS_ft, ev_t, ev_s, ev_c, evalOp, bin_add, bin_sub, bin_mul, bin_eql, bin_neq, bin_lss, bin_leq, bin_gtr, bin_geq, sbin_eql, sbin_neq, b8, List.map_cons, List.map_nil, PV.rens, PV.ren, if_true, if_false, Bool.false_eq_true, reduceIte, Nat.reduceAdd, Nat.reduceSub, Nat.reduceMul, Nat.reduceEqDiff, Nat.reduceLeDiff, Int.reduceLE, Int.reduceLT, Int.reduceEq, Int.reduceToNat, Int.reduceAdd, Int.reduceSub, Int.reduceNeg, decide_true, decide_false, Bool.not_true, Bool.not_false, Bool.true_and, Bool.false_and, Bool.and_true, Bool.and_false, Bool.or_true, Bool.true_or, Bool.or_false, Bool.false_or, and_self, and_true, true_and, Nat.le_refl, Nat.zero_add, Nat.mul_one, Nat.one_ne_zero, Nat.zero_le, highP, lowP, Option.map_some, Option.map_none, List.drop_zero, List.take_zero, List.length_cons, List.length_nil, List.nil_append, List.append_nil, List.cons_append, fillP, PV.cells?, PV.one, PV.cleans, PV.clean, PV.of?, List.all_cons, List.all_nil, List.take_succ_cons, List.drop_succ_cons, Bool.and_self, Int.natCast_nonneg, Int.toNat_natCast, Int.toNat_zero, PV.of?, Tk.ren, tailP, evL_loop, or_true, true_or, Nat.zero_lt_one, Nat.sub_zero, List.getElem?_cons_zero, List.getElem?_cons_succ, List.set_cons_zero, List.set_cons_succ, List.take_length, w1]
  · obtain rfl : k = 2 := by omega
    obtain ⟨rfl, g5⟩ := g4 (by decide)
    have f1 : ¬ (((2 : Nat) : Int) < 2) := by decide
    refine .inl ⟨(.ex 0, [.int .i64 num, slE l, .ptr 0 0, w], H1), ?_, by simp, .inr ⟨w, H1, s1, rfl, g1, g2, g3, hl1, g5⟩⟩
    simp only [slE, q5_4, evL_op, evL_sel, evL_nx, evL_exit, evL_ret, evL_join, evL_block, evL_cond, evK_some, evJ_nx, evJ_rt, evJ_ex, evB_nx, evB_rt, evB_ex, evC2_bool, evS_and, evS_or, evS_tf, evS_ft, ev_t, ev_s, ev_c, evalOp, bin_add, bin_sub, bin_mul, bin_eql, bin_neq, bin_lss, bin_leq, bin_gtr, bin_geq, sbin_eql, sbin_neq, b8, List.map_cons, List.map_nil, PV.rens, PV.ren, if_true, if_false, Bool.false_eq_true, reduceIte, Nat.reduceAdd, Nat.reduceSub, Nat.reduceMul, Nat.reduceEqDiff, Nat.reduceLeDiff, Int.reduceLE, Int.reduceLT, Int.reduceEq, Int.reduceToNat, Int.reduceAdd, Int.reduceSub, Int.reduceNeg, decide_true, decide_false, Bool.not_true, Bool.not_false, Bool.true_and, Bool.false_and, Bool.and_true, Bool.and_false, Bool.or_true, Bool.true_or, Bool.or_false, Bool.false_or, and_self, and_true, true_and, Nat.le_refl, Nat.zero_add, Nat.mul_one, Nat.one_ne_zero, Nat.zero_le, highP, lowP, Option.map_some, Option.map_none, List.drop_zero, List.take_zero, List.length_cons, List.length_nil, List.nil_append, List.append_nil, List.cons_append, fillP, PV.cells?, PV.one, PV.cleans, PV.clean, PV.of?, List.all_cons, List.all_nil, List.take_succ_cons, List.drop_succ_cons, Bool.and_self, Int.natCast_nonneg, Int.toNat_natCast, Int.toNat_zero, PV.of?, Tk.ren, tailP, evL_loop, or_true, true_or, Nat.zero_lt_one, Nat.sub_zero, List.getElem?_cons_zero, List.getElem?_cons_succ, List.set_cons_zero, List.set_cons_succ, List.take_length, f1]
theorem T_wakesC : T 15 [] [] = some (.bool true, []) := evT_iff.2 ⟨300, by kernel_rfl⟩
def dnR (num : Int) : Rc := ⟨6, noM, 0, [], 0, num, 0, []⟩
theorem dn_step {num : Int} {want : List UInt8} {s : Spl} (h : CInv num want s) (hn : 1 ≤ num ∧ num ≤ 65535) : ∃ s', addS s (dnR num) = some s' ∧ s'.of_ = -1 ∧ s'.part = [] ∧ s'.done = [num] ∧ Roomy s' ∧ FitsS s' ∧ addS s' (dnR num) = none ∧ addS s' (chR num 0 [1]) = none := by
  have hp : plainR (dnR num) = true := by simp [plainR, dnR]
  have hc : comesS s num = true := by unfold comesS; rw [h.dn]; simp [hn.1, hn.2]
  have e1 : ∀ s, addS s (dnR num) = doneS s num := fun s => by
    unfold addS
    rw [if_pos hp]
    rfl
  have e2 : ∀ s, addS s (chR num 0 [1]) = chunkS s (chR num 0 [1]) := fun s => by
    unfold addS
    rw [if_pos (by simp [plainR, chR])]
    rfl
  have no : ∀ s' : Spl, s'.done = [num] → addS s' (dnR num) = none ∧ addS s' (chR num 0 [1]) = none := fun s' hd => by
    have hc' : comesS s' num = false := by unfold comesS; rw [hd]; simp
    refine ⟨by rw [e1]; unfold doneS; rw [hc']; rfl, ?_⟩
    rw [e2]
    unfold chunkS
    have : comesS s' (chR num 0 [1]).number = false := hc'
    rw [this]
    rfl
  have hi : insU num s.done = [num] := by rw [h.dn]; rfl
  rw [e1]
  unfold doneS
  rw [if_pos hc, hi]
  have up : Up [num] := List.pairwise_singleton _ _
  by_cases ho : s.of_ = num
  · rw [if_pos ho]
    exact ⟨_, rfl, rfl, rfl, rfl, ⟨by show s.items.length ≤ _; rw [h.it]; decide, by show s.sent.length ≤ _; rw [h.se]; decide, by show 1 ≤ 1000000; decide, by show ([] : List UInt8).length ≤ _; decide, by show 0 ≤ s.packs; rw [h.pk]; decide, by show s.packs ≤ _; rw [h.pk]; decide, up⟩, ⟨fun x hx => (by have hx : x ∈ s.items := hx; rw [h.it] at hx; cases hx), by show ([] : List UInt8).length ≤ _; decide⟩, no _ rfl⟩
  · rw [if_neg ho]
    obtain ⟨o1, o2⟩ := h.off.resolve_left ho
    exact ⟨_, rfl, o2, o1, rfl, ⟨by show s.items.length ≤ _; rw [h.it]; decide, by show s.sent.length ≤ _; rw [h.se]; decide, by show 1 ≤ 1000000; decide, by show s.part.length ≤ _; rw [o1]; decide, by show 0 ≤ s.packs; rw [h.pk]; decide, by show s.packs ≤ _; rw [h.pk]; decide, up⟩, ⟨fun x hx => (by have hx : x ∈ s.items := hx; rw [h.it] at hx; cases hx), by show s.part.length ≤ _; rw [o1]; decide⟩, no _ rfl⟩
theorem chunk_end {num : Int} {l : List (List UInt8)} {s : Spl} {w : PV} {H : Hp} (hn : 1 ≤ num ∧ num ≤ 65535) (hl0 : 1 ≤ H.length) (hs : CInv num l.flatten s) (hv : SV H s) (hT : TokAt H w l.flatten) (hll : l.length ≤ l.flatten.length) (hfl : l.flatten.length ≤ 3000) (k0 : Nat) :
    ∃ H', evL T k0 q5_5 [.int .i64 num, slE l, .ptr 0 0, w] H = some (.rt, [.bool true], H') := by
  obtain ⟨hk, hf⟩ := hs.roomy
  obtain ⟨cs, hc, hS⟩ := hv
  obtain ⟨l6, o6⟩ := hS.one
  have t6 : cs.take 6 = cs := List.take_of_length_le (by omega)
  obtain ⟨s1, ha, q1, q2, q3, hk1, hf1, n1, n2⟩ := dn_step hs hn
  have hRd : RecR (dnR num) [.int .i64 6, .bool false, .str [], .str [], .sl .nil 0 0 [], .sl .nil 0 0 [], .bool false, .str [], .int .i64 0, .int .i64 0, .sl .nil 0 0 [], .int .i64 0, .int .i64 num, .int .i64 0, .sl .nil 0 0 []] := ⟨_, _, _, _, rfl, LS.nil 3, LS.nil 1, LS.nil 1, LS.nil 1⟩
  have hRc : RecR (chR num 0 [1]) [.int .i64 5, .bool false, .str [], .str [], .sl .nil 0 0 [], .sl .nil 0 0 [], .bool false, .str [], .int .i64 0, .int .i64 0, .sl .nil 0 0 [], .int .i64 0, .int .i64 num, .int .i64 0, .sl .no 1 1 [.int .u8 1]] := ⟨_, _, _, _, rfl, LS.nil 3, LS.nil 1, LS.nil 1, LS.no 1 1 _⟩
  have hFd : Fits (dnR num) := ⟨Nat.zero_le _, Nat.zero_le _, Nat.zero_le _, Nat.zero_le _⟩
  have hFc : Fits (chR num 0 [1]) := ⟨Nat.zero_le _, Nat.zero_le _, Nat.zero_le _, by show 1 ≤ _; decide⟩
  have hSd : Shorts (dnR num) := ⟨by show 0 + 0 < 4294967281; decide, fun p hp => by cases hp⟩
  have hSc : Shorts (chR num 0 [1]) := ⟨by show 0 + 0 < 4294967281; decide, fun p hp => by cases hp⟩
  obtain ⟨x, Hx, c17, cs1, hx, hS1⟩ := T_Add hS.none hRd hFd hSd hk hf
  unfold addO at hx hS1
  rw [ha] at hx hS1
  dsimp only at hx hS1
  obtain ⟨y, Hy, d17, cs2, hy, hS2⟩ := T_Add hS1 hRd hFd hSd hk1 hf1
  unfold addO at hy hS2
  rw [n1] at hy hS2
  dsimp only at hy hS2
  obtain ⟨z, Hz, e17, cs3, hz, hS3⟩ := T_Add hS1 hRc hFc hSc hk1 hf1
  unfold addO at hz hS3
  rw [n2] at hz hS3
  dsimp only at hz hS3
  obtain ⟨m6, p6⟩ := hS1.t.one
  obtain ⟨m7, p7⟩ := hS2.t.one
  obtain ⟨m8, p8⟩ := hS3.t.one
  have u6 : cs1.take 6 = cs1 := List.take_of_length_le (by omega)
  have r1 := hS1.box.2.2
  have d6 : ([PV.sl .nil 0 0 [], .int .i64 0, .sl .nil 0 0 [], .sl .nil 0 0 [], .int .i64 0, .sl .nil 0 0 []] : List PV).drop 6 = [] := rfl
  have h14 : (cs1.drop 4).take 1 = [.int .i64 (-1)] := by obtain ⟨_, _, _, _, rfl, _⟩ := hS1; rw [q1]; rfl
  obtain ⟨t3, z3, h13⟩ : ∃ t z, (cs1.drop 3).take 1 = [.sl t z 0 []] := by
    obtain ⟨_, _, _, _, rfl, _, _, ⟨t, z, rfl, _⟩, _⟩ := hS1
    refine ⟨t, z, ?_⟩
    rw [q2]; rfl
  have h15 : (cs1.drop 5).take 1 = [.sl .no 1 1 [.int .i64 num]] := by
    obtain ⟨_, _, _, _, rfl, _, _, _, ⟨t, z, rfl, ht, hz⟩⟩ := hS1
    rw [q3] at ht hz ⊢
    obtain rfl : z = 1 := hz.resolve_right (by simp)
    obtain rfl : t = .no := ht.resolve_right (fun e => by have := e.2; simp at this)
    rfl
  have c21 := T_ints [num] [num] (by simp)
  rw [decide_eq_true rfl] at c21
  simp only [inP, List.length_cons, List.length_nil, List.map_cons, List.map_nil, Nat.zero_add] at c21
  have h4 : (cs.drop 4).take 1 = [.int .i64 s.of_] := by obtain ⟨_, _, _, _, rfl, _⟩ := hS; rfl
  have g0 : ∀ Y : Hp, (H ++ Y)[0]? = some (.cells cs) := fun Y => (List.getElem?_append_left (by omega)).trans hc
  have k0' : ∀ o Y, (H ++ o :: Y)[H.length]? = some o := fun o Y => by rw [List.getElem?_append_right (Nat.le_refl _), Nat.sub_self]; rfl
  have k1' : ∀ o o2 Y, (H ++ o :: o2 :: Y)[H.length + 1]? = some o2 := fun o o2 Y => by rw [List.getElem?_append_right (by omega), Nat.add_sub_cancel_left]; rfl
  have k2' : ∀ o o2 o3 Y, (H ++ o :: o2 :: o3 :: Y)[H.length + 2]? = some o3 := fun o o2 o3 Y => by rw [List.getElem?_append_right (by omega), Nat.add_sub_cancel_left]; rfl
  have b0 : ∀ (Y : Hp) o, (H ++ Y).set H.length o = H ++ Y.set 0 o := fun Y o => by rw [List.set_append_right _ _ (Nat.le_refl _), Nat.sub_self]
  have b1 : ∀ (Y : Hp) o, (H ++ Y).set (H.length + 1) o = H ++ Y.set 1 o := fun Y o => by rw [List.set_append_right _ _ (by omega), Nat.add_sub_cancel_left]
  have b2 : ∀ (Y : Hp) o, (H ++ Y).set (H.length + 2) o = H ++ Y.set 2 o := fun Y o => by rw [List.set_append_right _ _ (by omega), Nat.add_sub_cancel_left]
  by_cases hz0 : l.length = 0
  · have f1 : ¬ (0 : Int) < l.length := by omega
    apply Exists.intro
    simp only [slE, q5_5, evL_op, evL_sel, evL_nx, evL_exit, evL_ret, evL_join, evL_block, evL_cond, evK_some, evJ_nx, evJ_rt, evJ_ex, evB_nx, evB_rt, evB_ex, evC2_bool, evS_and, evS_or, evS_tf, evS_ft, ev_t, ev_s, ev_c, evalOp, bin_add, bin_sub, bin_mul, bin_eql, bin_neq, bin_lss, bin_leq, bin_gtr, bin_geq, sbin_eql, sbin_neq, b8, List.map_cons, List.map_nil, PV.rens, PV.ren, if_true, if_false, Bool.false_eq_true, reduceIte, Nat.reduceAdd, Nat.reduceSub, Nat.reduceMul, Nat.reduceEqDiff, Nat.reduceLeDiff, Int.reduceLE, Int.reduceLT, Int.reduceEq, Int.reduceToNat, Int.reduceAdd, Int.reduceSub, Int.reduceNeg, decide_true, decide_false, Bool.not_true, Bool.not_false, Bool.true_and, Bool.false_and, Bool.and_true, Bool.and_false, Bool.or_true, Bool.true_or, Bool.or_false, Bool.false_or, and_self, and_true, true_and, Nat.le_refl, Nat.zero_add, Nat.mul_one, Nat.one_ne_zero, Nat.zero_le, highP, lowP, Option.map_some, Option.map_none, List.drop_zero, List.take_zero, List.length_cons, List.length_nil, List.nil_append, List.append_nil, List.cons_append, fillP, PV.cells?, PV.one, PV.cleans, PV.clean, PV.of?, List.all_cons, List.all_nil, List.take_succ_cons, List.drop_succ_cons, Bool.and_self, Int.natCast_nonneg, Int.toNat_natCast, Int.toNat_zero, PV.of?, Tk.ren, tailP, evL_loop, or_true, true_or, Nat.zero_lt_one, Nat.sub_zero, List.getElem?_cons_zero, List.getElem?_cons_succ, List.set_cons_zero, List.set_cons_succ, List.take_length, PV.rens, PV.ren, f1, hc, l6, t6, o6, c17, hx, d17, hy, e17, hz, m6, m7, m8, p6, p7, p8, u6, r1, h14, h13, h15, g0, k0', k1', k2', b0, b1, b2, c21, T_wakesC, List.append_assoc, List.length_append]
    rfl
  · have f1 : (0 : Int) < l.length := by omega
    have hne : l.flatten ≠ [] := fun e => by rw [e] at hll; simp at hll; exact hz0 (by simp [hll])
    obtain ⟨o1, o2⟩ := hs.on hne
    have hpos : 0 < l.flatten.length := List.length_pos_iff.2 hne
    have c20 := T_bytes8 l.flatten l.flatten (by omega)
    rw [decide_eq_true rfl] at c20
    simp only [sl8] at c20
    obtain ⟨t5, h3, h3'⟩ : ∃ t, (cs.drop 3).take 1 = [.sl t 1 l.flatten.length (l.flatten.map b8)] ∧ (t = .no ∨ ∃ k, t = .tok k) := by
      obtain ⟨_, _, _, _, rfl, _, _, ⟨t, z, rfl, ht, hz⟩, _⟩ := hS
      rw [o2] at ht hz ⊢
      obtain rfl : z = 1 := hz.resolve_right (by omega)
      exact ⟨t, rfl, ht.imp_right fun h => h.resolve_left (fun e => by have := e.2; omega)⟩
    obtain ⟨kw, rfl⟩ : ∃ k, w = .sl (.tok k) 1 l.flatten.length (l.flatten.map b8) := by
      rcases hT with ⟨e, _⟩ | ⟨k, z, rfl, hz, _⟩
      · exact absurd e hne
      · exact ⟨k, by rw [hz.resolve_right fun e => hne e.2]⟩
    rcases h3' with rfl | ⟨k5, rfl⟩
    · apply Exists.intro
      simp only [slE, q5_5, evL_op, evL_sel, evL_nx, evL_exit, evL_ret, evL_join, evL_block, evL_cond, evK_some, evJ_nx, evJ_rt, evJ_ex, evB_nx, evB_rt, evB_ex, evC2_bool, evS_and, evS_or, evS_tf, evS_ft, ev_t, ev_s, ev_c, evalOp, bin_add, bin_sub, bin_mul, bin_eql, bin_neq, bin_lss, bin_leq, bin_gtr, bin_geq, sbin_eql, sbin_neq, b8, List.map_cons, List.map_nil, PV.rens, PV.ren, if_true, if_false, Bool.false_eq_true, reduceIte, Nat.reduceAdd, Nat.reduceSub, Nat.reduceMul, Nat.reduceEqDiff, Nat.reduceLeDiff, Int.reduceLE, Int.reduceLT, Int.reduceEq, Int.reduceToNat, Int.reduceAdd, Int.reduceSub, Int.reduceNeg, decide_true, decide_false, Bool.not_true, Bool.not_false, Bool.true_and, Bool.false_and, Bool.and_true, Bool.and_false, Bool.or_true, Bool.true_or, Bool.or_false, Bool.false_or, and_self, and_true, true_and, Nat.le_refl, Nat.zero_add, Nat.mul_one, Nat.one_ne_zero, Nat.zero_le, highP, lowP, Option.map_some, Option.map_none, List.drop_zero, List.take_zero, List.length_cons, List.length_nil, List.nil_append, List.append_nil, List.cons_append, fillP, PV.cells?, PV.one, PV.cleans, PV.clean, PV.of?, List.all_cons, List.all_nil, List.take_succ_cons, List.drop_succ_cons, Bool.and_self, Int.natCast_nonneg, Int.toNat_natCast, Int.toNat_zero, PV.of?, Tk.ren, tailP, evL_loop, or_true, true_or, Nat.zero_lt_one, Nat.sub_zero, List.getElem?_cons_zero, List.getElem?_cons_succ, List.set_cons_zero, List.set_cons_succ, List.take_length, PV.rens, PV.ren, f1, h4, h3, o1, c20, hc, l6, t6, o6, c17, hx, d17, hy, e17, hz, m6, m7, m8, p6, p7, p8, u6, r1, h14, h13, h15, g0, k0', k1', k2', b0, b1, b2, c21, T_wakesC, List.append_assoc, List.length_append]
      rfl
    · apply Exists.intro
      simp only [slE, q5_5, evL_op, evL_sel, evL_nx, evL_exit, evL_ret, evL_join, evL_block, evL_cond, evK_some, evJ_nx, evJ_rt, evJ_ex, evB_nx, evB_rt, evB_ex, evC2_bool, evS_and, evS_or, evS_tf, evS_ft, ev_t, ev_s, ev_c, evalOp, bin_add, bin_sub, bin_mul, bin_eql, bin_neq, bin_lss, bin_leq, bin_gtr, bin_geq, sbin_eql, sbin_neq, b8, List.map_cons, List.map_nil, PV.rens, PV.ren, if_true, if_false, Bool.false_eq_true, reduceIte, Nat.reduceAdd, Nat.reduceSub, Nat.reduceMul, Nat.reduceEqDiff, Nat.reduceLeDiff, Int.reduceLE, Int.reduceLT, Int.reduceEq, Int.reduceToNat, Int.reduceAdd, Int.reduceSub, Int.reduceNeg, decide_true, decide_false, Bool.not_true, Bool.not_false, Bool.true_and, Bool.false_and, Bool.and_true, Bool.and_false, Bool.or_true, Bool.true_or, Bool.or_false, Bool.false_or, and_self, and_true, true_and, Nat.le_refl, Nat.zero_add, Nat.mul_one, Nat.one_ne_zero, Nat.zero_le, highP, lowP, Option.map_some, Option.map_none, List.drop_zero, List.take_zero, List.length_cons, List.length_nil, List.nil_append, List.append_nil, List.cons_append, fillP, PV.cells?, PV.one, PV.cleans, PV.clean, PV.of?, List.all_cons, List.all_nil, List.take_succ_cons, List.drop_succ_cons, Bool.and_self, Int.natCast_nonneg, Int.toNat_natCast, Int.toNat_zero, PV.of?, Tk.ren, tailP, evL_loop, or_true, true_or, Nat.zero_lt_one, Nat.sub_zero, List.getElem?_cons_zero, List.getElem?_cons_succ, List.set_cons_zero, List.set_cons_succ, List.take_length, PV.rens, PV.ren, f1, h4, h3, o1, c20, hc, l6, t6, o6, c17, hx, d17, hy, e17, hz, m6, m7, m8, p6, p7, p8, u6, r1, h14, h13, h15, g0, k0', k1', k2', b0, b1, b2, c21, T_wakesC, List.append_assoc, List.length_append]
      rfl
theorem T_NewC : T 16 [] [] = some (.agg [.sl .nil 0 0 [], .int .i64 0, .sl .nil 0 0 [], .sl .nil 0 0 [], .int .i64 (-1), .sl .nil 0 0 []], []) := evT_iff.2 ⟨300, by kernel_rfl⟩
theorem rU (a : Int) : binP .rem (.int .u64 a) (.int .u64 65535) = some (.int .u64 (a.tmod 65535)) := bin_rem (by decide)
theorem lawSpoolChunks (number : Int) (hh : (Lit.int .i64 number).wf = true) (l : List (List UInt8)) (hl : l.length ≤ room ∧ ∀ y ∈ l, y.length ≤ room ∧ ∀ z ∈ y, True) (again : Bool) :
    evT lt ov 5 [.int .i64 number, .sl .no 1 l.length (l.map fun d => .sl .no 1 d.length (d.map b8)), .bool again] [] = some (.bool true, []) := by
  show T 5 [.int .i64 number, slE l, .bool again] [] = _
  have fin : ∀ {H : Hp}, evL T 100 q5 [.int .i64 number, slE l, .bool again] [] = some (.rt, [.bool true], H) → T 5 [.int .i64 number, slE l, .bool again] [] = some (.bool true, []) := fun {H} h =>
    evT_of (k := 100) (F := l5) (H' := H) (e := [.bool true]) (l := [.bool true]) rfl rfl rfl h rfl rfl
  obtain ⟨num, hn, hnum⟩ : ∃ num : Int, (1 ≤ num ∧ num ≤ 65535) ∧ IntKind.i64.wrap (1 + IntKind.i64.wrap ((IntKind.u64.wrap number).tmod 65535)) = num := by
    have h0 : 0 ≤ IntKind.u64.wrap number := Int.emod_nonneg _ (by decide)
    rw [Int.tmod_eq_emod_of_nonneg h0]
    have h1 := Int.emod_nonneg (IntKind.u64.wrap number) (show (65535 : Int) ≠ 0 by decide)
    have h2 := Int.emod_lt_of_pos (IntKind.u64.wrap number) (show (0 : Int) < 65535 by decide)
    rw [wr (n := IntKind.u64.wrap number % 65535) (by omega) (by omega), wr (by omega) (by omega)]
    exact ⟨_, ⟨by omega, by omega⟩, rfl⟩
  by_cases h60 : (60 : Int) < l.length
  · apply fin
    simp only [slE, q5, evL_op, evL_sel, evL_nx, evL_exit, evL_ret, evL_join, evL_block, evL_cond, evK_some, evJ_nx, evJ_rt, evJ_ex, evB_nx, evB_rt, evB_ex, evC2_bool, evS_and, evS_or, evS_tf, evS_ft, ev_t, ev_s, ev_c, evalOp, bin_add, bin_sub, bin_mul, bin_eql, bin_neq, bin_lss, bin_leq, bin_gtr, bin_geq, sbin_eql, sbin_neq, b8, List.map_cons, List.map_nil, PV.rens, PV.ren, if_true, if_false, Bool.false_eq_true, reduceIte, Nat.reduceAdd, Nat.reduceSub, Nat.reduceMul, Nat.reduceEqDiff, Nat.reduceLeDiff, Int.reduceLE, Int.reduceLT, Int.reduceEq, Int.reduceToNat, Int.reduceAdd, Int.reduceSub, Int.reduceNeg, decide_true, decide_false, Bool.not_true, Bool.not_false, Bool.true_and, Bool.false_and, Bool.and_true, Bool.and_false, Bool.or_true, Bool.true_or, Bool.or_false, Bool.false_or, and_self, and_true, true_and, Nat.le_refl, Nat.zero_add, Nat.mul_one, Nat.one_ne_zero, Nat.zero_le, highP, lowP, Option.map_some, Option.map_none, List.drop_zero, List.take_zero, List.length_cons, List.length_nil, List.nil_append, List.append_nil, List.cons_append, fillP, PV.cells?, PV.one, PV.cleans, PV.clean, PV.of?, List.all_cons, List.all_nil, List.take_succ_cons, List.drop_succ_cons, Bool.and_self, Int.natCast_nonneg, Int.toNat_natCast, Int.toNat_zero, PV.of?, Tk.ren, tailP, evL_loop, or_true, true_or, Nat.zero_lt_one, Nat.sub_zero, List.getElem?_cons_zero, List.getElem?_cons_succ, List.set_cons_zero, List.set_cons_succ, List.take_length, rU, h60]
    rfl
  · have hs0 : CInv num [] ⟨[], 0, [], [], -1, []⟩ := ⟨rfl, rfl, rfl, rfl, Nat.zero_le _, fun e => absurd rfl e, .inr ⟨rfl, rfl⟩⟩
    have hv0 : SV [.cells [.sl .nil 0 0 [], .int .i64 0, .sl .nil 0 0 [], .sl .nil 0 0 [], .int .i64 (-1), .sl .nil 0 0 []]] ⟨[], 0, [], [], -1, []⟩ := ⟨_, rfl, _, _, _, _, rfl, (LS.nil 11).t, (LS.nil 1).t, (LS.nil 1).t, (LS.nil 1).t⟩
    obtain ⟨r, lp, hr⟩ := outer_loop (l := l) (ag := again) hn (by omega) rfl hs0 hv0 100 100 (by omega) (by decide)
    have start : ∀ R : Ev.Res, (match r with | (.nx, e, H') => evL T 100 q5_5 e H' | (.ex i, e, H') => if i = 0 then evL T 100 q5_5 e H' else some (.ex i, e, H') | (.rt, e, H') => some (.rt, e, H')) = R → evL T 100 q5 [.int .i64 number, slE l, .bool again] [] = R := by
      intro R hR
      simp only [slE] at lp
      simp only [slE, q5, evL_op, evL_sel, evL_nx, evL_exit, evL_ret, evL_join, evL_block, evL_cond, evK_some, evJ_nx, evJ_rt, evJ_ex, evB_nx, evB_rt, evB_ex, evC2_bool, evS_and, evS_or, evS_tf, evS_ft, ev_t, ev_s, ev_c, evalOp, bin_add, bin_sub, bin_mul, bin_eql, bin_neq, bin_lss, bin_leq, bin_gtr, bin_geq, sbin_eql, sbin_neq, b8, List.map_cons, List.map_nil, PV.rens, PV.ren, if_true, if_false, Bool.false_eq_true, reduceIte, Nat.reduceAdd, Nat.reduceSub, Nat.reduceMul, Nat.reduceEqDiff, Nat.reduceLeDiff, Int.reduceLE, Int.reduceLT, Int.reduceEq, Int.reduceToNat, Int.reduceAdd, Int.reduceSub, Int.reduceNeg, decide_true, decide_false, Bool.not_true, Bool.not_false, Bool.true_and, Bool.false_and, Bool.and_true, Bool.and_false, Bool.or_true, Bool.true_or, Bool.or_false, Bool.false_or, and_self, and_true, true_and, Nat.le_refl, Nat.zero_add, Nat.mul_one, Nat.one_ne_zero, Nat.zero_le, highP, lowP, Option.map_some, Option.map_none, List.drop_zero, List.take_zero, List.length_cons, List.length_nil, List.nil_append, List.append_nil, List.cons_append, fillP, PV.cells?, PV.one, PV.cleans, PV.clean, PV.of?, List.all_cons, List.all_nil, List.take_succ_cons, List.drop_succ_cons, Bool.and_self, Int.natCast_nonneg, Int.toNat_natCast, Int.toNat_zero, PV.of?, Tk.ren, tailP, evL_loop, or_true, true_or, Nat.zero_lt_one, Nat.sub_zero, List.getElem?_cons_zero, List.getElem?_cons_succ, List.set_cons_zero, List.set_cons_succ, List.take_length, PV.rens, PV.ren, rU, hnum, h60, T_NewC]
      rw [lp]
      rw [← hR]
      rcases hr with ⟨H', rfl⟩ | ⟨w, H', s', rfl, _⟩
      · rfl
      · simp only [evL_op, evL_sel, evL_nx, evL_exit, evL_ret, evL_join, evL_block, evL_cond, evK_some, evJ_nx, evJ_rt, evJ_ex, evB_nx, evB_rt, evB_ex, evC2_bool, evS_and, evS_or, evS_tf, evS_ft, ev_t, ev_s, ev_c, evalOp, bin_add, bin_sub, bin_mul, bin_eql, bin_neq, bin_lss, bin_leq, bin_gtr, bin_geq, sbin_eql, sbin_neq, b8, List.map_cons, List.map_nil, PV.rens, PV.ren, if_true, if_false, Bool.false_eq_true, reduceIte, Nat.reduceAdd, Nat.reduceSub, Nat.reduceMul, Nat.reduceEqDiff, Nat.reduceLeDiff, Int.reduceLE, Int.reduceLT, Int.reduceEq, Int.reduceToNat, Int.reduceAdd, Int.reduceSub, Int.reduceNeg, decide_true, decide_false, Bool.not_true, Bool.not_false, Bool.true_and, Bool.false_and, Bool.and_true, Bool.and_false, Bool.or_true, Bool.true_or, Bool.or_false, Bool.false_or, and_self, and_true, true_and, Nat.le_refl, Nat.zero_add, Nat.mul_one, Nat.one_ne_zero, Nat.zero_le, highP, lowP, Option.map_some, Option.map_none, List.drop_zero, List.take_zero, List.length_cons, List.length_nil, List.nil_append, List.append_nil, List.cons_append, fillP, PV.cells?, PV.one, PV.cleans, PV.clean, PV.of?, List.all_cons, List.all_nil, List.take_succ_cons, List.drop_succ_cons, Bool.and_self, Int.natCast_nonneg, Int.toNat_natCast, Int.toNat_zero, PV.of?, Tk.ren, tailP, evL_loop, or_true, true_or, Nat.zero_lt_one, Nat.sub_zero, List.getElem?_cons_zero, List.getElem?_cons_succ, List.set_cons_zero, List.set_cons_succ, List.take_length]
    rcases hr with ⟨H', rfl⟩ | ⟨w, H', s', rfl, q1, q2, q3, q4, q5⟩
    · exact fin (start _ rfl)
    · have hfl : l.flatten.length ≤ 3000 := by
        by_cases hne : l.flatten = []
        · rw [hne]; decide
        · rw [← (q3.on hne).2]; exact q3.pl
      obtain ⟨H2, he⟩ := chunk_end hn q4 q3 q1 q2 q5 hfl 100
      exact fin (start _ he)
end Go.Proofs.YtnljpfjoboafoaaDoor.Tab
