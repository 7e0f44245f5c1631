/- Mailboxes: what the document's answer does. -/
import Derived.Test.YtmdnloajpjfbmaaDoorPathA
namespace Go.Proofs.YtmdnloajpjfbmaaDoor.Tab
set_option linter.all false
open Go Go.RowKit Go.Proofs.YtmdnloajpjfbmaaDoor.Ev
def letterC (c : UInt8) : Bool := decide ((97 : Int) ≤ c.toNat) && decide ((c.toNat : Int) ≤ 122) || decide ((65 : Int) ≤ c.toNat) && decide ((c.toNat : Int) ≤ 90)
def digitC (c : UInt8) : Bool := decide ((48 : Int) ≤ c.toNat) && decide ((c.toNat : Int) ≤ 57)
theorem plain_eq (c : UInt8) : plain c = (letterC c || digitC c) := rfl
theorem T32 (c : UInt8) : T 32 [.int .u8 c.toNat] [] = some (.bool (letterC c), []) := by
  refine evT_of (k := 0) (F := l32) (H' := []) (e := [.bool (letterC c)]) (l := [.bool (letterC c)]) rfl rfl rfl ?_ rfl rfl
  simp only [l32, q32, evL_op, evL_sel, evL_nx, evL_exit, evL_ret, evL_join, evL_block, evL_cond, evK_some, evJ_nx, evJ_rt, evJ_ex, evB_nx, evB_rt, evB_ex, evC2_bool, evS_and, evS_or, evS_tf, evS_ft, ev_t, ev_s, ev_c, evalOp, bin_add, bin_sub, bin_mul, bin_eql, bin_neq, bin_lss, bin_leq, bin_gtr, bin_geq, sbin_eql, sbin_neq, b8, List.map_cons, List.map_nil, PV.rens, PV.ren, if_true, if_false, Bool.false_eq_true, reduceIte, letterC]
theorem T33 (c : UInt8) : T 33 [.int .u8 c.toNat] [] = some (.bool (digitC c), []) := by
  refine evT_of (k := 0) (F := l33) (H' := []) (e := [.bool (digitC c)]) (l := [.bool (digitC c)]) rfl rfl rfl ?_ rfl rfl
  simp only [l33, q33, evL_op, evL_sel, evL_nx, evL_exit, evL_ret, evL_join, evL_block, evL_cond, evK_some, evJ_nx, evJ_rt, evJ_ex, evB_nx, evB_rt, evB_ex, evC2_bool, evS_and, evS_or, evS_tf, evS_ft, ev_t, ev_s, ev_c, evalOp, bin_add, bin_sub, bin_mul, bin_eql, bin_neq, bin_lss, bin_leq, bin_gtr, bin_geq, sbin_eql, sbin_neq, b8, List.map_cons, List.map_nil, PV.rens, PV.ren, if_true, if_false, Bool.false_eq_true, reduceIte, digitC]
theorem T31 (n a b : Int) : T 31 [.int .i64 n, .int .i64 a, .int .i64 b] [] = some (.bool (decide (a ≤ n) && decide (n ≤ b)), []) := by
  refine evT_of (k := 0) (F := l31) (H' := []) (e := [.bool (decide (a ≤ n) && decide (n ≤ b))]) (l := [.bool (decide (a ≤ n) && decide (n ≤ b))]) rfl rfl rfl ?_ rfl rfl
  simp only [l31, q31, evL_op, evL_sel, evL_nx, evL_exit, evL_ret, evL_join, evL_block, evL_cond, evK_some, evJ_nx, evJ_rt, evJ_ex, evB_nx, evB_rt, evB_ex, evC2_bool, evS_and, evS_or, evS_tf, evS_ft, ev_t, ev_s, ev_c, evalOp, bin_add, bin_sub, bin_mul, bin_eql, bin_neq, bin_lss, bin_leq, bin_gtr, bin_geq, sbin_eql, sbin_neq, b8, List.map_cons, List.map_nil, PV.rens, PV.ren, if_true, if_false, Bool.false_eq_true, reduceIte]
theorem byte_eq (c d : UInt8) : decide ((c.toNat : Int) = d.toNat) = (c == d) := by
  by_cases h : c = d
  · subst h; simp
  · have h2 : c.toNat ≠ d.toNat := fun e => h (UInt8.toNat_inj.1 e)
    have h3 : ¬ ((c.toNat : Int) = d.toNat) := by omega
    simp [h, h3]
def signs18 : List UInt8 := [33, 35, 36, 37, 38, 39, 42, 43, 45, 47, 61, 63, 94, 95, 123, 124, 125, 126]
theorem sign_eq (c : UInt8) : (plain c || (signs18.contains c || c == 96)) = atomC c := by
  unfold atomC
  congr 1
  simp only [signs18, signs, List.contains_cons, List.contains_nil]
  cases (c == 33) <;> cases (c == 35) <;> cases (c == 36) <;> cases (c == 37) <;> cases (c == 38) <;> cases (c == 96) <;> simp
def lp : Bool → List UInt8 → Bool
  | _, [] => true
  | pd, c :: r => (if c = 46 then !pd else atomC c) && lp (c == 46) r
def lastOk (s : List UInt8) : Bool := !(s.getLast? == some 46)
theorem lastOk_cons (c : UInt8) (t : List UInt8) : lastOk (c :: t) = if t = [] then !(c == 46) else lastOk t := by
  unfold lastOk
  cases t with
  | nil => simp
  | cons a t => rw [List.getLast?_cons_cons]; simp
theorem split_lp : ∀ s : List UInt8, (∀ y r, splitBy 46 s = y :: r → (y.all atomC && r.all atom) = (lp false s && lastOk s)) ∧ (splitBy 46 s).all atom = (!decide (s = []) && lp true s && lastOk s)
  | [] => ⟨fun y r h => by simp [splitBy] at h; obtain ⟨rfl, rfl⟩ := h; rfl, by decide⟩
  | c :: t => by
    obtain ⟨ihP, ihQ⟩ := split_lp t
    by_cases hc : c = 46
    · subst hc
      have e : splitBy 46 (46 :: t) = [] :: splitBy 46 t := by conv => lhs; unfold splitBy
                                                               rw [if_pos rfl]
      refine ⟨fun y r h => ?_, ?_⟩
      · rw [e] at h
        obtain ⟨rfl, rfl⟩ := List.cons.inj h
        rw [ihQ, lastOk_cons]
        simp only [lp, if_true, Bool.not_false, Bool.true_and, beq_self_eq_true, List.all_nil]
        by_cases ht : t = []
        · subst ht; rfl
        · simp [ht]
      · rw [e, List.all_cons]
        simp [atom, lp]
    · obtain ⟨y, r, h1, h2⟩ := split_cons c hc t
      have hp := ihP y r h1
      have hb : (c == 46) = false := by simpa using hc
      have hl : (lp false t && lastOk (c :: t)) = (lp false t && lastOk t) := by
        rw [lastOk_cons]
        by_cases ht : t = []
        · subst ht; simp [hb, lastOk]
        · simp [ht]
      refine ⟨fun y' r' h => ?_, ?_⟩
      · rw [h2] at h
        obtain ⟨rfl, rfl⟩ := List.cons.inj h
        simp only [lp, if_neg hc, hb, List.all_cons]
        rw [Bool.and_assoc, Bool.and_assoc, hl, hp]
      · rw [h2, List.all_cons]
        simp only [lp, if_neg hc, hb, atom, List.all_cons]
        have : (!decide (c :: y = [])) = true := by simp
        rw [this]
        have h3 : (!decide (c :: t = [])) = true := by simp
        rw [h3, Bool.true_and, Bool.and_true, Bool.and_assoc, Bool.and_assoc, hl, hp]
theorem parts_ref (s : List UInt8) : parts s 64 atom = (decide ((1 : Int) ≤ s.length) && decide ((s.length : Int) ≤ 64) && !(s.head? == some 46) && !(s.getLast? == some 46) && lp false s) := by
  unfold parts
  rw [(split_lp s).2]
  cases s with
  | nil => decide
  | cons c t =>
    have h1 : decide ((1 : Int) ≤ ((c :: t).length : Nat)) = true := by simp; omega
    have h2 : (!decide (c :: t = [])) = true := by simp
    rw [h1, h2]
    unfold lastOk
    by_cases hc : c = 46
    · subst hc; simp [lp]
    · have hb : (c == 46) = false := by simpa using hc
      simp only [lp, if_neg hc, List.head?_cons, Option.some_beq_some, hb, Bool.not_false, Bool.true_and, Bool.and_true]
      cases decide (((c :: t).length : Int) ≤ 64) <;> cases (atomC c && lp false t) <;> cases ((c :: t).getLast? == some 46) <;> rfl
theorem byte_eqn (c : UInt8) (n : Nat) (hn : n < 256) : decide ((c.toNat : Int) = n) = (c == UInt8.ofNat n) := by
  have := byte_ne c n hn
  simpa using congrArg (!·) this
def rd : List UInt8 → List UInt8 → Bool
  | cur, [] => label cur
  | cur, c :: r => if c = 46 then label cur && rd [] r else labelC c && rd (cur ++ [c]) r
theorem label_bad {a b : List UInt8} {c : UInt8} (h : labelC c = false) : label (a ++ c :: b) = false := by
  unfold label
  have : (a ++ c :: b).all labelC = false := by simp [h]
  rw [this]; simp
theorem rd_split : ∀ (s cur y : List UInt8) (r : List (List UInt8)), splitBy 46 s = y :: r → rd cur s = (label (cur ++ y) && r.all label)
  | [], cur, y, r, h => by simp [splitBy] at h; obtain ⟨rfl, rfl⟩ := h; simp [rd]
  | c :: t, cur, y, r, h => by
    by_cases hc : c = 46
    · subst hc
      have e : splitBy 46 (46 :: t) = [] :: splitBy 46 t := by conv => lhs; unfold splitBy
                                                               rw [if_pos rfl]
      rw [e] at h
      obtain ⟨rfl, rfl⟩ := List.cons.inj h
      unfold rd
      rw [if_pos rfl]
      cases h2 : splitBy 46 t with
      | nil => exact absurd h2 (split_ne t)
      | cons y r => rw [rd_split t [] y r h2, List.append_nil, List.all_cons, List.nil_append]
    · obtain ⟨y', r', h1, h2⟩ := split_cons c hc t
      rw [h2] at h
      obtain ⟨rfl, rfl⟩ := List.cons.inj h
      unfold rd
      rw [if_neg hc, rd_split t (cur ++ [c]) y' _ h1, List.append_assoc]
      show (labelC c && (label (cur ++ c :: y') && _)) = (label (cur ++ c :: y') && _)
      cases hl : labelC c with
      | true => simp
      | false => rw [label_bad hl]; simp
theorem parts_rd (s : List UInt8) : parts s 255 label = (decide ((s.length : Int) ≤ 255) && rd [] s) := by
  unfold parts
  cases h : splitBy 46 s with
  | nil => exact absurd h (split_ne s)
  | cons y r => rw [rd_split s [] y r h, List.all_cons, List.nil_append]
/-- What is asked at a label's end. -/
theorem label_end {cur : List UInt8} (h : cur.all labelC = true) : label cur = (decide ((1 : Int) ≤ cur.length) && decide ((cur.length : Int) ≤ 63) && !(cur.head? == some 45) && !(cur.getLast? == some 45)) := by
  unfold label
  rw [h]
  cases cur with
  | nil => rfl
  | cons a r =>
    have h1 : decide ((1 : Int) ≤ ((a :: r).length : Nat)) = true := by simp; omega
    have h2 : (!decide (a :: r = [])) = true := by simp
    rw [h1, h2]
    simp
theorem labelC_parts (c : UInt8) : (!letterC c && !digitC c && !(c == 45)) = !labelC c := by
  unfold labelC
  rw [plain_eq]
  cases letterC c <;> cases digitC c <;> cases (c == 45) <;> rfl
/-- A sign within a label. -/
theorem body20_in (k0 : Nat) (s : List UInt8) (hs : s.length ≤ 9000000000000000000) (b : Int) (i : Nat) (c : UInt8) (hc : s[i]? = some c) (h46 : c ≠ 46) :
    evL T k0 q20_1 [.str s, .int .i64 b, .int .i64 i] [] = if labelC c = true then some (.nx, [.str s, .int .i64 b, .int .i64 (i + 1 : Nat)], []) else some (.rt, [.bool false], []) := by
  have hi : i < s.length := (List.getElem?_eq_some_iff.1 hc).1
  have h1 : (i : Int) < s.length := by omega
  have h2 : (i : Int) ≤ s.length := by omega
  have hw : IntKind.i64.wrap ((i : Int) + 1) = ((i + 1 : Nat) : Int) := by rw [IntWalk.i64_in _ (by omega)]; rfl
  have e46 : decide ((c.toNat : Int) = 46) = (c == 46) := byte_eqn c 46 (by omega)
  have e45 : decide ((c.toNat : Int) = 45) = (c == 45) := byte_eqn c 45 (by omega)
  have ec : (c == 46) = false := by simpa using h46
  have h35 := T32 c
  have h36 := T33 c
  simp only [q20_1, q20_0, evL_op, evL_sel, evL_nx, evL_exit, evL_ret, evL_join, evL_block, evL_cond, evK_some, evJ_nx, evJ_rt, evJ_ex, evB_nx, evB_rt, evB_ex, evC2_bool, evS_and, evS_or, evS_tf, evS_ft, ev_t, ev_s, ev_c, evalOp, bin_add, bin_sub, bin_mul, bin_eql, bin_neq, bin_lss, bin_leq, bin_gtr, bin_geq, sbin_eql, sbin_neq, b8, List.map_cons, List.map_nil, PV.rens, PV.ren, if_true, if_false, Bool.false_eq_true, reduceIte, h1, h2, decide_true, Int.natCast_nonneg, Int.toNat_natCast, hc, e46, e45, ec, Bool.not_false, h35, h36, Bool.true_and, labelC_parts]
  cases labelC c with
  | true => simp only [evL_op, evL_sel, evL_nx, evL_exit, evL_ret, evL_join, evL_block, evL_cond, evK_some, evJ_nx, evJ_rt, evJ_ex, evB_nx, evB_rt, evB_ex, evC2_bool, evS_and, evS_or, evS_tf, evS_ft, ev_t, ev_s, ev_c, evalOp, bin_add, bin_sub, bin_mul, bin_eql, bin_neq, bin_lss, bin_leq, bin_gtr, bin_geq, sbin_eql, sbin_neq, b8, List.map_cons, List.map_nil, PV.rens, PV.ren, if_true, if_false, Bool.false_eq_true, reduceIte, Bool.not_true, hw, if_neg (show ¬ (1 : Nat) = 0 by decide)]
  | false => simp only [evL_op, evL_sel, evL_nx, evL_exit, evL_ret, evL_join, evL_block, evL_cond, evK_some, evJ_nx, evJ_rt, evJ_ex, evB_nx, evB_rt, evB_ex, evC2_bool, evS_and, evS_or, evS_tf, evS_ft, ev_t, ev_s, ev_c, evalOp, bin_add, bin_sub, bin_mul, bin_eql, bin_neq, bin_lss, bin_leq, bin_gtr, bin_geq, sbin_eql, sbin_neq, b8, List.map_cons, List.map_nil, PV.rens, PV.ren, if_true, if_false, Bool.false_eq_true, reduceIte, Bool.not_false]
/-- A label's end. -/
theorem body20_end (k0 : Nat) (s : List UInt8) (hs : s.length ≤ 9000000000000000000) (b i : Nat) (hb : b ≤ i) (hi : i ≤ s.length) (hc : i = s.length ∨ s[i]? = some 46) (cur : List UInt8) (hcur : (s.drop b).take (i - b) = cur) (hall : cur.all labelC = true) :
    evL T k0 q20_1 [.str s, .int .i64 b, .int .i64 i] [] = if label cur = true then some (.nx, [.str s, .int .i64 (i + 1 : Nat), .int .i64 (i + 1 : Nat)], []) else some (.rt, [.bool false], []) := by
  have h2 : (i : Int) ≤ s.length := by omega
  have hw : IntKind.i64.wrap ((i : Int) + 1) = ((i + 1 : Nat) : Int) := by rw [IntWalk.i64_in _ (by omega)]; rfl
  have hlen : cur.length = i - b := by rw [← hcur, List.length_take, List.length_drop]; omega
  have hw2 : IntKind.i64.wrap ((i : Int) - (b : Int)) = ((cur.length : Nat) : Int) := by rw [IntWalk.i64_in _ (by omega)]; omega
  have h34 := T31 cur.length 1 63
  have e4646 : decide (((46 : UInt8).toNat : Int) = 46) = true := rfl
  have hlt : i = s.length → ¬ ((i : Int) < s.length) := fun h => by omega
  have hlt' : s[i]? = some 46 → (i : Int) < s.length := fun h => by have := (List.getElem?_eq_some_iff.1 h).1; omega
  rw [label_end hall]
  cases hR : (decide ((1 : Int) ≤ cur.length) && decide ((cur.length : Int) ≤ 63)) with
  | false =>
    rw [hR] at h34
    rcases hc with h | h
    · have := hlt h
      simp only [q20_1, q20_0, evL_op, evL_sel, evL_nx, evL_exit, evL_ret, evL_join, evL_block, evL_cond, evK_some, evJ_nx, evJ_rt, evJ_ex, evB_nx, evB_rt, evB_ex, evC2_bool, evS_and, evS_or, evS_tf, evS_ft, ev_t, ev_s, ev_c, evalOp, bin_add, bin_sub, bin_mul, bin_eql, bin_neq, bin_lss, bin_leq, bin_gtr, bin_geq, sbin_eql, sbin_neq, b8, List.map_cons, List.map_nil, PV.rens, PV.ren, if_true, if_false, Bool.false_eq_true, reduceIte, this, h2, decide_true, decide_false, hw2, h34, Bool.not_false, Bool.false_and]
    · have := hlt' h
      simp only [q20_1, q20_0, evL_op, evL_sel, evL_nx, evL_exit, evL_ret, evL_join, evL_block, evL_cond, evK_some, evJ_nx, evJ_rt, evJ_ex, evB_nx, evB_rt, evB_ex, evC2_bool, evS_and, evS_or, evS_tf, evS_ft, ev_t, ev_s, ev_c, evalOp, bin_add, bin_sub, bin_mul, bin_eql, bin_neq, bin_lss, bin_leq, bin_gtr, bin_geq, sbin_eql, sbin_neq, b8, List.map_cons, List.map_nil, PV.rens, PV.ren, if_true, if_false, Bool.false_eq_true, reduceIte, this, h2, decide_true, decide_false, Int.natCast_nonneg, Int.toNat_natCast, h, e4646, Bool.not_true, Bool.and_false, hw2, h34, Bool.not_false, Bool.false_and]
  | true =>
    rw [hR] at h34
    have hpos : 1 ≤ cur.length := by
      simp only [Bool.and_eq_true, decide_eq_true_eq] at hR
      omega
    obtain ⟨x, hx, hx'⟩ : ∃ x, s[b]? = some x ∧ cur.head? = some x := by
      have hbl : b < s.length := by omega
      refine ⟨s[b], List.getElem?_eq_getElem hbl, ?_⟩
      rw [← hcur, List.drop_eq_getElem_cons hbl, show i - b = (i - b - 1) + 1 by omega, List.take_succ_cons, List.head?_cons]
    obtain ⟨z, hz, hz'⟩ : ∃ z, s[i - 1]? = some z ∧ cur.getLast? = some z := by
      have hbl : i - 1 < s.length := by omega
      refine ⟨s[i - 1], List.getElem?_eq_getElem hbl, ?_⟩
      rw [List.getLast?_eq_getElem?, hlen, ← hcur, List.getElem?_take, if_pos (by omega), List.getElem?_drop, show b + (i - b - 1) = i - 1 by omega, List.getElem?_eq_getElem hbl]
    have ex : decide ((x.toNat : Int) = 45) = (x == 45) := byte_eqn x 45 (by omega)
    have ez : decide ((z.toNat : Int) = 45) = (z == 45) := byte_eqn z 45 (by omega)
    have hw3 : IntKind.i64.wrap ((i : Int) - 1) = ((i - 1 : Nat) : Int) := by rw [IntWalk.i64_in _ (by omega)]; omega
    rw [hx', hz']
    rcases hc with h | h
    · have := hlt h
      simp only [q20_1, q20_0, evL_op, evL_sel, evL_nx, evL_exit, evL_ret, evL_join, evL_block, evL_cond, evK_some, evJ_nx, evJ_rt, evJ_ex, evB_nx, evB_rt, evB_ex, evC2_bool, evS_and, evS_or, evS_tf, evS_ft, ev_t, ev_s, ev_c, evalOp, bin_add, bin_sub, bin_mul, bin_eql, bin_neq, bin_lss, bin_leq, bin_gtr, bin_geq, sbin_eql, sbin_neq, b8, List.map_cons, List.map_nil, PV.rens, PV.ren, if_true, if_false, Bool.false_eq_true, reduceIte, this, h2, decide_true, decide_false, hw2, h34, Bool.not_true, Int.natCast_nonneg, Int.toNat_natCast, hx, ex, hw3, hz, ez, Bool.false_or, Bool.true_and, Option.some_beq_some]
      cases (x == 45) <;> cases (z == 45) <;> simp only [evL_op, evL_sel, evL_nx, evL_exit, evL_ret, evL_join, evL_block, evL_cond, evK_some, evJ_nx, evJ_rt, evJ_ex, evB_nx, evB_rt, evB_ex, evC2_bool, evS_and, evS_or, evS_tf, evS_ft, ev_t, ev_s, ev_c, evalOp, bin_add, bin_sub, bin_mul, bin_eql, bin_neq, bin_lss, bin_leq, bin_gtr, bin_geq, sbin_eql, sbin_neq, b8, List.map_cons, List.map_nil, PV.rens, PV.ren, if_true, if_false, Bool.false_eq_true, reduceIte, Bool.or_self, Bool.or_true, Bool.or_false, Bool.true_or, Bool.not_false, Bool.not_true, Bool.and_true, Bool.and_false, Bool.false_and, Bool.and_self, hw]
    · have := hlt' h
      simp only [q20_1, q20_0, evL_op, evL_sel, evL_nx, evL_exit, evL_ret, evL_join, evL_block, evL_cond, evK_some, evJ_nx, evJ_rt, evJ_ex, evB_nx, evB_rt, evB_ex, evC2_bool, evS_and, evS_or, evS_tf, evS_ft, ev_t, ev_s, ev_c, evalOp, bin_add, bin_sub, bin_mul, bin_eql, bin_neq, bin_lss, bin_leq, bin_gtr, bin_geq, sbin_eql, sbin_neq, b8, List.map_cons, List.map_nil, PV.rens, PV.ren, if_true, if_false, Bool.false_eq_true, reduceIte, this, h2, decide_true, decide_false, h, e4646, Bool.and_false, hw2, h34, Bool.not_true, Int.natCast_nonneg, Int.toNat_natCast, hx, ex, hw3, hz, ez, Bool.false_or, Bool.true_and, Option.some_beq_some]
      cases (x == 45) <;> cases (z == 45) <;> simp only [evL_op, evL_sel, evL_nx, evL_exit, evL_ret, evL_join, evL_block, evL_cond, evK_some, evJ_nx, evJ_rt, evJ_ex, evB_nx, evB_rt, evB_ex, evC2_bool, evS_and, evS_or, evS_tf, evS_ft, ev_t, ev_s, ev_c, evalOp, bin_add, bin_sub, bin_mul, bin_eql, bin_neq, bin_lss, bin_leq, bin_gtr, bin_geq, sbin_eql, sbin_neq, b8, List.map_cons, List.map_nil, PV.rens, PV.ren, if_true, if_false, Bool.false_eq_true, reduceIte, Bool.or_self, Bool.or_true, Bool.or_false, Bool.true_or, Bool.not_false, Bool.not_true, Bool.and_true, Bool.and_false, Bool.false_and, Bool.and_self, hw]
theorem loop20 (k0 : Nat) (s : List UInt8) (hs : s.length ≤ 9000000000000000000) : ∀ (j b i : Nat) (cur : List UInt8), i + j = s.length → b ≤ i → (s.drop b).take (i - b) = cur → cur.all labelC = true → ∀ k, j + 1 < k →
    loopL 0 (evL T k0 q20_1) k [.str s, .int .i64 b, .int .i64 i] [] = if rd cur (s.drop i) = true then some (.ex 0, [], []) else some (.rt, [.bool false], [])
  | j, b, i, cur, hij, hb, hcur, hall, 0, hk => by omega
  | 0, b, i, cur, hij, hb, hcur, hall, k + 1, hk => by
    have hi : i = s.length := by omega
    have h2 : s.drop i = [] := List.drop_of_length_le (by omega)
    rw [loopL_succ, head0 (env := [.str s, .int .i64 b, .int .i64 i]) rfl, body20_end k0 s hs b i hb (by omega) (.inl hi) cur hcur hall, h2]
    unfold rd
    cases label cur with
    | false => rfl
    | true =>
      obtain ⟨k', rfl⟩ : ∃ k', k = k' + 1 := ⟨k - 1, by omega⟩
      have h1 : ¬ (((i + 1 : Nat) : Int) ≤ s.length) := by omega
      have h3 : evL T k0 q20_1 [.str s, .int .i64 (i + 1 : Nat), .int .i64 (i + 1 : Nat)] [] = some (.ex 0, [], []) := by simp only [q20_1, evL_op, evL_sel, evL_nx, evL_exit, evL_ret, evL_join, evL_block, evL_cond, evK_some, evJ_nx, evJ_rt, evJ_ex, evB_nx, evB_rt, evB_ex, evC2_bool, evS_and, evS_or, evS_tf, evS_ft, ev_t, ev_s, ev_c, evalOp, bin_add, bin_sub, bin_mul, bin_eql, bin_neq, bin_lss, bin_leq, bin_gtr, bin_geq, sbin_eql, sbin_neq, b8, List.map_cons, List.map_nil, PV.rens, PV.ren, if_true, if_false, Bool.false_eq_true, reduceIte, h1, decide_false]
      simp only [if_true]
      rw [loopL_succ, head0 (env := [.str s, .int .i64 (i + 1 : Nat), .int .i64 (i + 1 : Nat)]) rfl, h3]
  | j + 1, b, i, cur, hij, hb, hcur, hall, k + 1, hk => by
    have hi : i < s.length := by omega
    have hc : s[i]? = some s[i] := List.getElem?_eq_getElem hi
    rw [loopL_succ, head0 (env := [.str s, .int .i64 b, .int .i64 i]) rfl, List.drop_eq_getElem_cons hi]
    unfold rd
    by_cases h46 : s[i] = 46
    · rw [body20_end k0 s hs b i hb (by omega) (.inr (by rw [hc, h46])) cur hcur hall, if_pos h46]
      cases label cur with
      | false => rfl
      | true =>
        simp only [if_true, Bool.true_and]
        exact loop20 k0 s hs j (i + 1) (i + 1) [] (by omega) (by omega) (by rw [Nat.sub_self]; rfl) rfl k (by omega)
    · rw [body20_in k0 s hs b i s[i] hc h46, if_neg h46]
      cases hl : labelC s[i] with
      | false => rfl
      | true =>
        simp only [if_true, Bool.true_and]
        refine loop20 k0 s hs j b (i + 1) (cur ++ [s[i]]) (by omega) (by omega) ?_ (by simp [hall, hl]) k (by omega)
        have hd : (s.drop b)[i - b]? = some s[i] := by rw [List.getElem?_drop, show b + (i - b) = i by omega]; exact hc
        rw [show i + 1 - b = (i - b) + 1 by omega, List.take_succ, hcur, hd]
        rfl
theorem T20 (s : List UInt8) (hs : s.length ≤ 9000000000000000000) : T 20 [.str s] [] = some (.bool (parts s 255 label), []) := by
  refine evT_of (k := s.length + 2) (F := l20) (H' := []) (e := [.bool (parts s 255 label)]) (l := [.bool (parts s 255 label)]) rfl rfl rfl ?_ rfl rfl
  show evL T (s.length + 2) q20 _ _ = _
  have h34 := T31 s.length 1 255
  rw [parts_rd]
  have hl := loop20 (s.length + 2) s hs s.length 0 0 [] (by omega) (by omega) (by simp) rfl (s.length + 2) (by omega)
  rw [List.drop_zero] at hl
  have h0 : evL T (s.length + 2) q20 [.str s] [] = if (!(decide ((1 : Int) ≤ s.length) && decide ((s.length : Int) ≤ 255))) = true then some (.rt, [.bool false], []) else evJ T (s.length + 2) q20_2 (evB 0 (loopL 0 (evL T (s.length + 2) q20_1) (s.length + 2) [.str s, .int .i64 (0 : Nat), .int .i64 (0 : Nat)] [])) := by
    have e0 : ((0 : Nat) : Int) = 0 := rfl
    rw [e0]
    simp only [q20, evL_op, evL_sel, evL_nx, evL_exit, evL_ret, evL_join, evL_block, evL_cond, evK_some, evJ_nx, evJ_rt, evJ_ex, evB_nx, evB_rt, evB_ex, evC2_bool, evS_and, evS_or, evS_tf, evS_ft, ev_t, ev_s, ev_c, evalOp, bin_add, bin_sub, bin_mul, bin_eql, bin_neq, bin_lss, bin_leq, bin_gtr, bin_geq, sbin_eql, sbin_neq, b8, List.map_cons, List.map_nil, PV.rens, PV.ren, if_true, if_false, Bool.false_eq_true, reduceIte, h34, evL_loop, List.length_nil]
  rw [h0, hl]
  cases s with
  | nil => rfl
  | cons a r =>
    have h1 : decide ((1 : Int) ≤ ((a :: r).length : Nat)) = true := by simp; omega
    rw [h1]
    cases decide (((a :: r).length : Int) ≤ 255) <;> cases rd [] (a :: r) <;> rfl
theorem atom_chars {s : List UInt8} (h : atom s = true) : s.all atomC = true := by
  unfold atom at h
  simp only [Bool.and_eq_true] at h
  exact h.1
theorem no_at {l : List UInt8} (h : parts l 64 atom = true) : 64 ∉ l := fun hm => by
  simp only [parts, Bool.and_eq_true] at h
  have h4 : (splitBy 46 l).all (fun x => x.all atomC) = true := List.all_eq_true.2 fun x hx => atom_chars (List.all_eq_true.1 h.2 x hx)
  rcases split_chars atomC l h4 64 hm with h5 | h5
  · exact absurd h5 (by decide)
  · exact absurd h5 (by decide)
theorem cut_text {l d : List UInt8} (h : 64 ∉ l) : cutP (60 :: (l ++ 64 :: (d ++ [62]))) 60 = (l ++ 64 :: (d ++ [62]), true) ∧ cutS (l ++ 64 :: (d ++ [62])) 62 = (l ++ 64 :: d, true) ∧ cutA (l ++ 64 :: d) 64 = (l, d, true) := by
  refine ⟨by simp [cutP], ?_, ?_⟩
  · have e : l ++ 64 :: (d ++ [62]) = (l ++ 64 :: d) ++ [62] := by simp
    rw [e]
    unfold cutS
    rw [if_pos List.getLast?_concat, List.dropLast_concat]
  · have hne : ∀ x ∈ l, (x != 64) = true := fun x hx => by simp; intro e; subst e; exact h hx
    unfold cutA
    rw [if_pos (by simp), List.takeWhile_append_of_pos hne, List.dropWhile_append_of_pos hne]
    simp
theorem parse_text {n : Bool} {l d : List UInt8} (h : pathOk n l d = true) : parseV (textOf n l d) = pathV n l d ∧ parseOk (textOf n l d) = true := by
  cases n with
  | true =>
    have e : l ++ d = [] := by simpa [pathOk] using h
    obtain ⟨rfl, rfl⟩ := List.append_eq_nil_iff.1 e
    exact ⟨rfl, rfl⟩
  | false =>
    have hp : parts l 64 atom = true ∧ parts d 255 label = true := by simpa [pathOk] using h
    obtain ⟨c1, c2, c3⟩ := cut_text (d := d) (no_at hp.1)
    have hne : ¬ (60 :: (l ++ 64 :: (d ++ [62])) : List UInt8) = [60, 62] := fun e => by
      cases l with
      | nil => simp at e
      | cons a l => have := congrArg List.length e; simp at this
    have hin : inner (60 :: (l ++ 64 :: (d ++ [62]))) = (l, d) := by unfold inner; rw [c1, c2, c3]
    have hok : innerOk (60 :: (l ++ 64 :: (d ++ [62]))) = true := by unfold innerOk; rw [hin, c1, c2, c3]; simpa using h
    have et : textOf false l d = 60 :: (l ++ 64 :: (d ++ [62])) := rfl
    rw [et]
    unfold parseV parseC parseOk
    rw [if_neg hne, if_pos hok, hin, hok]
    exact ⟨rfl, by simp⟩
theorem text_parse {s : List UInt8} (h : parseOk s = true) : ∃ n l d, parseV s = pathV n l d ∧ pathOk n l d = true ∧ textOf n l d = s ∧ l.length + d.length ≤ s.length := by
  by_cases h0 : s = [60, 62]
  · subst h0; exact ⟨true, [], [], rfl, rfl, rfl, by simp⟩
  · have hok : innerOk s = true := by simpa [parseOk, h0] using h
    refine ⟨false, (inner s).1, (inner s).2, by simp [parseV, parseC, h0, hok], ?_, ?_, ?_⟩
    · unfold innerOk at hok
      simp only [Bool.and_eq_true] at hok
      exact hok.2
    · unfold innerOk at hok
      simp only [Bool.and_eq_true] at hok
      obtain ⟨⟨⟨h1, h2⟩, h3⟩, _⟩ := hok
      have e1 : s = 60 :: (cutP s 60).1 := by
        unfold cutP at h1 ⊢
        split at h1
        · rename_i h5
          rw [if_pos h5]
          cases s with
          | nil => simp at h5
          | cons a r => simp at h5; rw [h5]; rfl
        · cases h1
      have e2 : (cutP s 60).1 = (cutS (cutP s 60).1 62).1 ++ [62] := by
        generalize (cutP s 60).1 = a at *
        unfold cutS at h2 ⊢
        split at h2
        · rename_i h5
          rw [if_pos h5]
          rcases List.eq_nil_or_concat a with rfl | ⟨r, z, rfl⟩
          · simp at h5
          · rw [List.concat_eq_append] at *
            rw [List.getLast?_concat] at h5
            rw [List.dropLast_concat, Option.some.inj h5]
        · cases h2
      have e3 : (cutS (cutP s 60).1 62).1 = (cutA (cutS (cutP s 60).1 62).1 64).1 ++ 64 :: (cutA (cutS (cutP s 60).1 62).1 64).2.1 := by
        generalize (cutS (cutP s 60).1 62).1 = b at *
        rcases idxB_cases b 64 with ⟨_, h5⟩ | ⟨x, y, h5, h6, _⟩
        · unfold cutA at h3; rw [if_neg h5] at h3; cases h3
        · have hne : ∀ z ∈ x, (z != 64) = true := fun z hz => by simp; intro e; subst e; exact h6 hz
          unfold cutA
          rw [if_pos (by rw [h5]; simp), h5, List.takeWhile_append_of_pos hne, List.dropWhile_append_of_pos hne]
          simp
      show 60 :: ((inner s).1 ++ 64 :: ((inner s).2 ++ [62])) = s
      have f1 : (inner s).1 = (cutA (cutS (cutP s 60).1 62).1 64).1 := rfl
      have f2 : (inner s).2 = (cutA (cutS (cutP s 60).1 62).1 64).2.1 := rfl
      rw [f1, f2]
      conv => rhs; rw [e1, e2, e3]
      simp
    · have hp := cutP_len s 60
      have hq := cutS_len (cutP s 60).1 62
      have hr := cutA_len (cutS (cutP s 60).1 62).1 64
      show (cutA (cutS (cutP s 60).1 62).1 64).1.length + (cutA (cutS (cutP s 60).1 62).1 64).2.1.length ≤ _
      omega
theorem bad_parse {s : List UInt8} (h : parseOk s = false) : parseV s = pathV false [] [] := by
  have h0 : ¬ s = [60, 62] := fun e => by simp [parseOk, e] at h
  have h1 : innerOk s = false := by simpa [parseOk, h0] using h
  simp [parseV, parseC, h0, h1]
theorem parse_head {s : List UInt8} (h : s.head? ≠ some 60) : parseOk s = false := by
  have h0 : ¬ s = [60, 62] := fun e => h (by rw [e]; rfl)
  have : (cutP s 60).2 = false := by unfold cutP; rw [if_neg h]
  simp [parseOk, h0, innerOk, this]
theorem parse_last {s : List UInt8} (h : s.getLast? ≠ some 62) (h1 : 2 ≤ s.length) : parseOk s = false := by
  have h0 : ¬ s = [60, 62] := fun e => h (by rw [e]; rfl)
  have : (cutS (cutP s 60).1 62).2 = false := by
    unfold cutS cutP
    split
    · rename_i hh
      have : s.tail.getLast? = s.getLast? := by
        cases s with
        | nil => simp at h1
        | cons a r => cases r with
          | nil => simp at h1
          | cons b r => simp [List.getLast?_cons_cons]
      rw [if_neg (by simp only; rw [this]; exact h)]
    · rfl
  simp [parseOk, h0, innerOk, this]
/-- What stands between brackets is cut at its first sign. -/
theorem parse_in {b : List UInt8} (hb : b ≠ []) : parseOk (60 :: (b ++ [62])) = ((cutA b 64).2.2 && pathOk false (cutA b 64).1 (cutA b 64).2.1) := by
  have h0 : ¬ (60 :: (b ++ [62]) : List UInt8) = [60, 62] := fun e => hb (by simpa using e)
  have c1 : cutP (60 :: (b ++ [62])) 60 = (b ++ [62], true) := by simp [cutP]
  have c2 : cutS (b ++ [62]) 62 = (b, true) := by unfold cutS; rw [if_pos List.getLast?_concat, List.dropLast_concat]
  have hin : inner (60 :: (b ++ [62])) = ((cutA b 64).1, (cutA b 64).2.1) := by unfold inner; rw [c1, c2]
  unfold parseOk innerOk
  rw [hin, c1, c2]
  simp [h0]
theorem cutA_no {b : List UInt8} (h : 64 ∉ b) : (cutA b 64).2.2 = false := by unfold cutA; rw [if_neg h]
theorem cutA_at {x y : List UInt8} (h : 64 ∉ x) : cutA (x ++ 64 :: y) 64 = (x, y, true) := by
  have hne : ∀ z ∈ x, (z != 64) = true := fun z hz => by simp; intro e; subst e; exact h hz
  unfold cutA
  rw [if_pos (by simp), List.takeWhile_append_of_pos hne, List.dropWhile_append_of_pos hne]
  simp
theorem local_chars {l : List UInt8} (h : parts l 64 atom = true) (c : UInt8) (hc : c ∈ l) : atomC c = true ∨ c = 46 := by
  simp only [parts, Bool.and_eq_true] at h
  exact split_chars atomC l (List.all_eq_true.2 fun x hx => atom_chars (List.all_eq_true.1 h.2 x hx)) c hc
theorem domain_chars {d : List UInt8} (h : parts d 255 label = true) (c : UInt8) (hc : c ∈ d) : labelC c = true ∨ c = 46 := by
  simp only [parts, Bool.and_eq_true] at h
  exact split_chars labelC d (List.all_eq_true.2 fun x hx => label_chars (List.all_eq_true.1 h.2 x hx)) c hc
section
variable {l d : List UInt8} (hl : parts l 64 atom = true) (hd : parts d 255 label = true)
include hl hd
theorem l_ne : l ≠ [] := fun e => by rw [e] at hl; exact absurd hl (by decide)
theorem d_ne : d ≠ [] := fun e => by rw [e] at hd; exact absurd hd (by decide)
theorem l_not (c : UInt8) (h : atomC c = false) (h2 : c ≠ 46) : c ∉ l := fun hc => by
  rcases local_chars hl c hc with h3 | h3
  · rw [h] at h3; cases h3
  · exact h2 h3
theorem d_not (c : UInt8) (h : labelC c = false) (h2 : c ≠ 46) : c ∉ d := fun hc => by
  rcases domain_chars hd c hc with h3 | h3
  · rw [h] at h3; cases h3
  · exact h2 h3
theorem bad1 : parseOk (l ++ 64 :: (d ++ [62])) = false := by
  refine parse_head fun h => ?_
  cases hl' : l with
  | nil => exact l_ne hl hd hl'
  | cons a r =>
    rw [hl'] at h
    have : a = 60 := by simpa using h
    exact l_not hl hd 60 (by decide) (by decide) (by rw [hl', this]; simp)
theorem bad2 : parseOk (60 :: (l ++ 64 :: d)) = false := by
  refine parse_last (fun h => ?_) (by simp; omega)
  rcases List.eq_nil_or_concat d with hd' | ⟨r, z, hd'⟩
  · exact d_ne hl hd hd'
  · rw [List.concat_eq_append] at hd'
    have e : 60 :: (l ++ 64 :: d) = (60 :: (l ++ 64 :: r)) ++ [z] := by rw [hd']; simp
    rw [e, List.getLast?_concat] at h
    exact d_not hl hd 62 (by decide) (by decide) (by rw [hd', Option.some.inj h]; simp)
theorem bad3 : parseOk (60 :: (60 :: (l ++ 64 :: d) ++ [62])) = false := by
  rw [parse_in (by simp)]
  have e : 60 :: (l ++ 64 :: d) = (60 :: l) ++ 64 :: d := by simp
  rw [e, cutA_at (by simp; exact l_not hl hd 64 (by decide) (by decide))]
  have : parts (60 :: l) 64 atom = false := Bool.eq_false_iff.2 fun h => by
    rcases local_chars h 60 (by simp) with h3 | h3 <;> exact absurd h3 (by decide)
  simp [pathOk, this]
theorem bad4 : parseOk (60 :: (l ++ 64 :: (d ++ [62]) ++ [62])) = false := by
  rw [parse_in (by simp), cutA_at (l_not hl hd 64 (by decide) (by decide))]
  have : parts (d ++ [62]) 255 label = false := Bool.eq_false_iff.2 fun h => by
    rcases domain_chars h 62 (by simp) with h3 | h3 <;> exact absurd h3 (by decide)
  simp [pathOk, this]
theorem bad5 (t : List UInt8) : parseOk (32 :: t) = false := parse_head (by simp)
theorem bad6 : parseOk (60 :: (l ++ d ++ [62])) = false := by
  rw [parse_in (by simp [l_ne hl hd]), cutA_no (by simp; exact ⟨l_not hl hd 64 (by decide) (by decide), d_not hl hd 64 (by decide) (by decide)⟩)]
  rfl
theorem bad7 : parseOk (60 :: (l ++ 64 :: 64 :: d ++ [62])) = false := by
  rw [parse_in (by simp), cutA_at (l_not hl hd 64 (by decide) (by decide))]
  have : parts (64 :: d) 255 label = false := Bool.eq_false_iff.2 fun h => by
    rcases domain_chars h 64 (by simp) with h3 | h3 <;> exact absurd h3 (by decide)
  simp [pathOk, this]
theorem bad8 : parseOk (60 :: (64 :: d ++ [62])) = false := by
  rw [parse_in (by simp)]
  have e : 64 :: d = ([] : List UInt8) ++ 64 :: d := rfl
  rw [e, cutA_at (by simp)]
  have : parts [] 64 atom = false := by decide
  simp [pathOk, this]
theorem bad9 : parseOk (60 :: (l ++ [64] ++ [62])) = false := by
  rw [parse_in (by simp)]
  rw [cutA_at (y := []) (l_not hl hd 64 (by decide) (by decide))]
  have : parts [] 255 label = false := by decide
  simp [pathOk, this]
end
abbrev Hs (l d q : List UInt8) : Hp := [.cells [.bool false, .str l, .str d], .cells [.bool false, .str q, .str [120]]]
abbrev Hz (l d q : List UInt8) : Hp := [.cells [.bool false, .str l, .str d], .cells [.bool false, .str q, .str [120]], .cells [.bool false, .str [], .str []]]
theorem take1' {L : List (List UInt8)} {i : Nat} {s : List UInt8} (h : L[i]? = some s) : ((L.map PV.str).drop i).take 1 = [PV.str s] := by
  have := take1 h
  rwa [Nat.mul_one] at this
end Go.Proofs.YtmdnloajpjfbmaaDoor.Tab
