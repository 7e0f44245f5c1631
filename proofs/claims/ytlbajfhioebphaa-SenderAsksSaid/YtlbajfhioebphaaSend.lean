/- What the printed functions of package sender come to, as plain facts. -/
import Derived.Test.YtlbajfhioebphaaNums
import Derived.Test.YtlbajfhioebphaaWLast
import Derived.Test.YtlbajfhioebphaaFAx2
import Derived.Test.YtlbajfhioebphaaFAx1
import Derived.Test.YtlbajfhioebphaaFAx6
import Derived.Test.YtlbajfhioebphaaFAx7
import Derived.Test.YtlbajfhioebphaaFAx8
import Derived.Test.YtlbajfhioebphaaFAx5
namespace Go.Proofs.Ytlbajfhioebphaa.FA
open Go.RowKit Go.Proofs.YtlbajfhioebphaaW.PrintWords Go.Proofs.YtlbajfhioebphaaW.PrintLast Go.Proofs.YtlbajfhioebphaaW.PrintMore Go.Proofs.Ytlbajfhioebphaa.Nums

/-- A right frame: kind, number, offset, turn, how many bytes of data. -/
def RF (K N O S : Int) (d : Nat) : Prop :=
  (1 ≤ N ∧ N ≤ 65535) ∧ (((K = 1 ∨ K = 2) ∧ 0 ≤ O ∧ O ≤ 5000 ∧ S = 0 ∧ d = 0) ∨ (K = 3 ∧ 0 ≤ O ∧ O ≤ 5000 ∧ 0 ≤ S ∧ S ≤ 7 ∧ 1 ≤ d ∧ d ≤ 48) ∨ (K = 4 ∧ O = 0 ∧ 0 ≤ S ∧ S ≤ 7 ∧ d = 0) ∨ (K = 5 ∧ O = 0 ∧ S = 0 ∧ d = 0))
instance (K N O S : Int) (d : Nat) : Decidable (RF K N O S d) := by unfold RF; infer_instance
theorem within_eq (n : Int) (b : Bool) (m : Int) : frame_within.f n b m = some (decide (n = 0 ∨ (b = true ∧ 0 < n ∧ n ≤ m))) := by
  unfold frame_within.f
  by_cases h : n = 0
  · rw [if_pos h, decide_eq_true (Or.inl h)]
  · rw [if_neg h]
    cases b
    · rw [if_neg (by simp), decide_eq_false (by simp [h])]
    · rw [if_pos rfl]
      by_cases h2 : n > 0
      · rw [if_pos h2]; congr 1; exact decide_eq_decide.2 (by simp [h]; omega)
      · rw [if_neg h2, decide_eq_false (by simp [h]; omega)]
theorem check_j1 (k : Nat) (o s d : Bool) (K N O S : Int) (l : List Int) : frame_Check.j1 (k + 1) o s d K N O S l =
    some (if 1 ≤ N ∧ N ≤ 65535 ∧ (O = 0 ∨ (o = true ∧ 0 < O ∧ O ≤ 5000)) ∧ (S = 0 ∨ (s = true ∧ 0 < S ∧ S ≤ 7)) ∧ (d = true ↔ 0 < l.length) ∧ l.length ≤ 48 then 0 else 1) := by
  simp only [frame_Check.j1]
  by_cases h1 : N < 1
  · rw [if_pos h1, if_neg (by omega)]
  rw [if_neg h1]
  by_cases h2 : N > 65535
  · rw [if_pos h2, if_neg (by omega)]
  rw [if_neg h2, within_eq, Option.bind_some]
  by_cases h3 : O = 0 ∨ (o = true ∧ 0 < O ∧ O ≤ 5000)
  · rw [decide_eq_true h3, if_pos rfl, within_eq, Option.bind_some]
    by_cases h4 : S = 0 ∨ (s = true ∧ 0 < S ∧ S ≤ 7)
    · rw [decide_eq_true h4, if_pos rfl]
      have e : (d != decide ((l.length : Int) > 0)) = !decide (d = true ↔ 0 < l.length) := by
        by_cases hl : 0 < l.length
        · rw [decide_eq_true (show (l.length : Int) > 0 by omega)]; cases d <;> simp [hl]
        · rw [decide_eq_false (show ¬ ((l.length : Int) > 0) by omega)]; cases d <;> simp [hl]
      rw [e]
      by_cases h5 : d = true ↔ 0 < l.length
      · rw [decide_eq_true h5, if_neg (by simp)]
        by_cases h6 : (l.length : Int) > 48
        · rw [if_pos h6, if_neg (by omega)]
        · rw [if_neg h6, if_pos ⟨by omega, by omega, h3, h4, h5, by omega⟩]
      · rw [decide_eq_false h5, if_pos (by decide), if_neg (fun h => h5 h.2.2.2.2.1)]
    · rw [decide_eq_false h4, if_neg (by simp), if_neg (fun h => h4 h.2.2.2.1)]
  · rw [decide_eq_false h3, if_neg (by simp), if_neg (fun h => h3 h.2.2.1)]
theorem ite01 {A B : Prop} [Decidable A] [Decidable B] (h : A ↔ B) : (if A then (0 : Int) else 1) = if B then 0 else 1 := by
  by_cases hA : A
  · rw [if_pos hA, if_pos (h.1 hA)]
  · rw [if_neg hA, if_neg (fun hb => hA (h.2 hb))]
theorem check_eq (k : Nat) (hk : 2 ≤ k) (K N O S : Int) (l : List Int) : frame_Check.f k K N O S l = some (if RF K N O S l.length then 0 else 1) := by
  obtain ⟨k, rfl⟩ : ∃ m, k = m + 2 := ⟨k - 2, by omega⟩
  unfold frame_Check.f
  have key : ∀ b : Bool, (b = true ↔ (K = 1 ∨ K = 2)) → frame_Check.j0 (k + 2) false false false K b K N O S l = some (if RF K N O S l.length then 0 else 1) := by
    intro b hb
    simp only [frame_Check.j0]
    by_cases h : b = true
    · rw [if_pos h, check_j1]
      have hK := hb.1 h
      congr 1
      refine ite01 ?_
      unfold RF
      simp only [true_and, Bool.false_eq_true, false_and, or_false, false_iff]
      omega
    · rw [if_neg h]
      have hK : ¬ (K = 1 ∨ K = 2) := fun h2 => h (hb.2 h2)
      by_cases h3 : K = 3
      · rw [if_pos h3, check_j1]
        congr 1
        refine ite01 ?_
        unfold RF
        simp only [true_and, true_iff]
        omega
      rw [if_neg h3]
      by_cases h4 : K = 4
      · rw [if_pos h4, check_j1]
        congr 1
        refine ite01 ?_
        unfold RF
        simp only [true_and, Bool.false_eq_true, false_and, or_false, false_iff]
        omega
      rw [if_neg h4]
      by_cases h5 : K = 5
      · rw [if_pos h5, check_j1]
        congr 1
        refine ite01 ?_
        unfold RF
        simp only [Bool.false_eq_true, false_and, or_false, false_iff]
        omega
      rw [if_neg h5, if_neg (by unfold RF; omega)]
  by_cases h : K = 1
  · rw [if_pos h]
    exact key _ (by simp [h])
  · rw [if_neg h]
    exact key _ (by simp [h])
theorem in_eq (a b c : Int) : wherryref18_in.f a b c = some (decide (b ≤ a ∧ a ≤ c)) := by
  unfold wherryref18_in.f
  by_cases h : a ≥ b
  · rw [if_pos h]; congr 1; exact decide_eq_decide.2 (by omega)
  · rw [if_neg h, decide_eq_false (by omega)]
theorem keep_bytes_l0 (xs ys : List Int) (hl : xs.length = ys.length) (hn : xs.length < 2 ^ 62) : ∀ (j k i : Nat), i ≤ xs.length → xs.length - i = j → j < k →
    wherrykeep_Bytes.l0 k xs ys i = some (decide (xs.drop i = ys.drop i)) := by
  intro j
  induction j with
  | zero =>
    intro k i hi hj hk
    obtain ⟨k, rfl⟩ : ∃ m, k = m + 1 := ⟨k - 1, by omega⟩
    simp only [wherrykeep_Bytes.l0]
    rw [if_neg (by omega), List.drop_of_length_le (by omega), List.drop_of_length_le (by omega)]
    rfl
  | succ j ih =>
    intro k i hi hj hk
    obtain ⟨k, rfl⟩ : ∃ m, k = m + 1 := ⟨k - 1, by omega⟩
    simp only [wherrykeep_Bytes.l0]
    have h1 : i < xs.length := by omega
    have h2 : i < ys.length := by omega
    have e1 : rd xs (i : Int) = xs[i] := by simp [rd, h1]
    have e2 : rd ys (i : Int) = ys[i] := by simp [rd, h2]
    rw [if_pos (by omega), if_pos (by omega), if_pos (by omega), e1, e2, List.drop_eq_getElem_cons h1, List.drop_eq_getElem_cons h2]
    by_cases h : xs[i] = ys[i]
    · rw [if_pos h, wraps64 _ (by omega) (by omega), show (i : Int) + 1 = ((i + 1 : Nat) : Int) by omega, ih k (i + 1) (by omega) (by omega) (by omega)]
      congr 1
      exact decide_eq_decide.2 ⟨fun e => by rw [h, e], fun e => (List.cons.inj e).2⟩
    · rw [if_neg h]
      congr 1
      symm
      exact decide_eq_false (fun e => h (List.cons.inj e).1)
theorem keep_bytes (xs ys : List Int) (hn : xs.length < 2 ^ 62) (k : Nat) (hk : xs.length < k) : wherrykeep_Bytes.f k xs ys = some (decide (xs = ys)) := by
  unfold wherrykeep_Bytes.f
  by_cases h : xs.length = ys.length
  · rw [if_pos (by omega)]
    have := keep_bytes_l0 xs ys h hn xs.length k 0 (by omega) (by omega) hk
    rw [List.drop_zero, List.drop_zero] at this
    exact this
  · rw [if_neg (by omega)]
    congr 1
    symm
    exact decide_eq_false (fun e => h (by rw [e]))

/-- How many pieces so many bytes are. -/
def cnt (n : Int) : Int := (n + 47) / 48
theorem cnt_eq {n : Int} (h0 : 0 ≤ n) (h1 : n ≤ 6000) : wrap64 (Int.tdiv (wrap64 ((wrap64 (n + 48)) - 1)) 48) = cnt n := by
  rw [wraps64 (n + 48) (by omega) (by omega), wraps64 (n + 48 - 1) (by omega) (by omega), Int.tdiv_eq_ediv_of_nonneg (by omega)]
  unfold cnt
  rw [wraps64 _ (by omega) (by omega), show n + 48 - 1 = n + 47 by omega]
theorem count_eq {n : Int} (h0 : 0 ≤ n) (h1 : n ≤ 6000) : sender_count.f n = some (cnt n) := by
  unfold sender_count.f; rw [cnt_eq h0 h1]
theorem mn_lt {a b x : Int} : x > mn a b ↔ x > a ∨ x > b := by unfold mn; split <;> omega
theorem le_mn {a b x : Int} : x ≤ mn a b ↔ x ≤ a ∧ x ≤ b := by unfold mn; split <;> omega
/-- A right sending. -/
def RS (N L : Int) (R : Bool) (B X W : Int) : Prop :=
  (1 ≤ N ∧ N ≤ 65535) ∧ (1 ≤ L ∧ L ≤ 5000) ∧ (0 ≤ W ∧ W ≤ 3) ∧ (R = true ∨ (B = 0 ∧ X = 0)) ∧ (0 ≤ B ∧ B ≤ cnt L) ∧ (B ≤ X ∧ X ≤ B + 7 ∧ X ≤ cnt L)
instance (N L : Int) (R : Bool) (B X W : Int) : Decidable (RS N L R B X W) := by unfold RS; infer_instance
theorem ref_send (N : Int) (l : List Int) (R : Bool) (B X W : Int) (O : Bool) (hl : (l.length : Int) ≤ 5100) :
    wherryref18_Send.f N l R B X W O = some (decide (RS N l.length R B X W)) := by
  unfold wherryref18_Send.f wherryref18_pieces.f
  rw [cnt_eq (by omega) (by omega), Option.bind_some, in_eq, Option.bind_some]
  have hc : cnt l.length ≤ 200 := by unfold cnt; omega
  by_cases h1 : 1 ≤ N ∧ N ≤ 65535
  · rw [decide_eq_true h1, if_pos rfl, in_eq, Option.bind_some]
    by_cases h2 : 1 ≤ (l.length : Int) ∧ (l.length : Int) ≤ 5000
    · rw [decide_eq_true h2, if_pos rfl, in_eq, Option.bind_some]
      by_cases h3 : 0 ≤ B ∧ B ≤ cnt l.length
      · rw [decide_eq_true h3, if_pos rfl, in_eq, Option.bind_some, wraps64 _ (by omega) (by omega)]
        by_cases h4 : B ≤ X ∧ X ≤ mn (B + 7) (cnt l.length)
        · rw [decide_eq_true h4, if_pos rfl, in_eq, Option.bind_some]
          rw [le_mn] at h4
          by_cases h5 : 0 ≤ W ∧ W ≤ 3
          · rw [decide_eq_true h5, if_pos rfl]
            cases R
            · rw [if_neg (by decide)]
              by_cases h6 : B = 0
              · rw [if_pos h6]; congr 1
                by_cases h7 : X = 0
                · rw [decide_eq_true ⟨h1, h2, h5, Or.inr ⟨h6, h7⟩, h3, h4⟩, h7]; rfl
                · rw [decide_eq_false (fun h => h7 ((h.2.2.2.1.resolve_left (by decide)).2))]; simp [h7]
              · rw [if_neg h6, decide_eq_false (fun h => h6 ((h.2.2.2.1.resolve_left (by decide)).1))]
            · rw [if_pos rfl, decide_eq_true ⟨h1, h2, h5, Or.inl rfl, h3, h4⟩]
          · rw [decide_eq_false h5, if_neg (by decide), decide_eq_false (fun h => h5 h.2.2.1)]
        · rw [decide_eq_false h4, if_neg (by decide), decide_eq_false (fun h => h4 (by rw [le_mn]; exact h.2.2.2.2.2))]
      · rw [decide_eq_false h3, if_neg (by decide), decide_eq_false (fun h => h3 h.2.2.2.2.1)]
    · rw [decide_eq_false h2, if_neg (by decide), decide_eq_false (fun h => h2 h.2.1)]
  · rw [decide_eq_false h1, if_neg (by decide), decide_eq_false (fun h => h1 h.1)]
theorem top_eq (N : Int) (l : List Int) (R : Bool) (B X W : Int) (O : Bool) (hl : (l.length : Int) ≤ 5000) (h0 : 0 ≤ B) (h1 : B ≤ cnt l.length) :
    sender_top.f N l R B X W O = some (mn (B + 7) (cnt l.length)) := by
  unfold sender_top.f
  have hc : cnt l.length ≤ 200 := by unfold cnt; omega
  rw [count_eq (by omega) (by omega), Option.bind_some, wraps64 _ (by omega) (by omega)]
theorem scheck (N : Int) (l : List Int) (R : Bool) (B X W : Int) (O : Bool) :
    sender_Check.f N l R B X W O = some (if RS N l.length R B X W then 0 else 1) := by
  have key : (1 ≤ N ∧ N ≤ 65535) → (1 ≤ (l.length : Int) ∧ (l.length : Int) ≤ 5000) → (0 ≤ W ∧ W ≤ 3) → (R = true ∨ (B = 0 ∧ X = 0)) →
      (if B < 0 then some (1 : Int) else ((sender_count.f (l.length : Int)).bind fun t111 => (if B > t111 then (some 1) else (if X < B then (some 1) else ((sender_top.f N l R B X W O).bind fun t112 => (if X > t112 then (some 1) else (some 0))))))) = some (if RS N l.length R B X W then 0 else 1) := by
    intro a1 a2 a3 a4
    by_cases h1 : B < 0
    · rw [if_pos h1, if_neg (fun h => by have := h.2.2.2.2.1; omega)]
    rw [if_neg h1, count_eq (by omega) (by omega), Option.bind_some]
    by_cases h2 : B > cnt l.length
    · rw [if_pos h2, if_neg (fun h => by have := h.2.2.2.2.1; omega)]
    rw [if_neg h2]
    by_cases h3 : X < B
    · rw [if_pos h3, if_neg (fun h => by have := h.2.2.2.2.2; omega)]
    rw [if_neg h3, top_eq _ _ _ _ _ _ _ (by omega) (by omega) (by omega), Option.bind_some]
    by_cases h4 : X > mn (B + 7) (cnt l.length)
    · rw [if_pos h4, if_neg (fun h => by have := h.2.2.2.2.2; rw [mn_lt] at h4; omega)]
    · rw [if_neg h4]; rw [mn_lt] at h4; rw [if_pos ⟨a1, a2, a3, a4, by omega, by omega⟩]
  unfold sender_Check.f
  by_cases h1 : N < 1
  · rw [if_pos h1, if_neg (fun h => by have := h.1; omega)]
  rw [if_neg h1]
  by_cases h2 : N > 65535
  · rw [if_pos h2, if_neg (fun h => by have := h.1; omega)]
  rw [if_neg h2]
  by_cases h3 : (l.length : Int) < 1
  · rw [if_pos h3, if_neg (fun h => by have := h.2.1; omega)]
  rw [if_neg h3]
  by_cases h4 : (l.length : Int) > 5000
  · rw [if_pos h4, if_neg (fun h => by have := h.2.1; omega)]
  rw [if_neg h4]
  by_cases h5 : W < 0
  · rw [if_pos h5, if_neg (fun h => by have := h.2.2.1; omega)]
  rw [if_neg h5]
  by_cases h6 : W > 3
  · rw [if_pos h6, if_neg (fun h => by have := h.2.2.1; omega)]
  rw [if_neg h6]
  cases R
  · rw [if_neg (by decide)]
    by_cases h7 : B = 0
    · rw [if_pos h7]
      by_cases h8 : X = 0
      · rw [if_pos h8]; exact key (by omega) (by omega) (by omega) (Or.inr ⟨h7, h8⟩)
      · rw [if_neg h8, if_neg (fun h => h8 ((h.2.2.2.1.resolve_left (by decide)).2))]
    · rw [if_neg h7, if_neg (fun h => h7 ((h.2.2.2.1.resolve_left (by decide)).1))]
  · rw [if_pos rfl]; exact key (by omega) (by omega) (by omega) (Or.inl rfl)
theorem clone_eq (l : List Int) (hl : (l.length : Int) ≤ 6000) : bytes_Clone.f l = some l := by unfold bytes_Clone.f; rw [if_pos (by omega)]
theorem twin_eq (N : Int) (l : List Int) (R : Bool) (B X W : Int) (O : Bool) (hl : (l.length : Int) ≤ 6000) : sender_twin.f N l R B X W O = some (N, l, R, B, X, W, O) := by
  unfold sender_twin.f; rw [clone_eq _ hl, Option.bind_some]
theorem wakes_eq (k : Nat) (hk : 1 ≤ k) : wherrylaw21_wakes.f k = some true := by
  obtain ⟨k, rfl⟩ : ∃ m, k = m + 1 := ⟨k - 1, by omega⟩
  have hR : RS 1 (([7] : List Int).length : Int) false 0 0 0 := ⟨by omega, by decide, by omega, Or.inr ⟨rfl, rfl⟩, by unfold cnt; simp, by unfold cnt; simp⟩
  have c1 : sender_count.f (([7] : List Int).length : Int) = some 1 := by rw [count_eq (by decide) (by decide)]; rfl
  have hN : sender_New.f 1 [7] = some (1, [7], false, 0, 0, 0, false, 0) := by
    unfold sender_New.f
    rw [scheck, if_pos hR, Option.bind_some, if_pos rfl, twin_eq _ _ _ _ _ _ _ (by decide), Option.bind_some]
  have hT : sender_Tick.f (k + 1) 1 [7] false 0 0 0 false = some (1, [7], false, 0, 0, 3, false, [⟨1, 1, 1, 0, []⟩], 0) := by
    unfold sender_Tick.f
    rw [scheck, if_pos hR, Option.bind_some, if_pos rfl, twin_eq _ _ _ _ _ _ _ (by decide), Option.bind_some]
    simp only []
    rw [if_neg (by decide), if_neg (by decide), sender_Tick.j0, if_neg (by decide), if_neg (by decide), c1, Option.bind_some, if_pos (by decide)]
    rfl
  unfold wherrylaw21_wakes.f sender_Pieces.f
  rw [hN, Option.bind_some]
  simp only []
  rw [hT, Option.bind_some]
  simp only []
  rw [if_pos trivial, if_pos trivial, if_pos (by decide), if_pos (by decide), if_pos (by decide), if_pos (by decide), if_pos trivial, scheck, if_pos hR, Option.bind_some, if_pos rfl, c1, Option.bind_some, Option.bind_some]
  rfl
/-- Where the search for an answered piece ends that finds none. -/
theorem ack_none (q N : Int) (l : List Int) (R : Bool) (B X W : Int) (O : Bool) (hX : X ≤ 300) : ∀ (n : Nat) (k : Nat) (a : Int), 0 ≤ a → (X + 1 - a).toNat ≤ n → 2 * n + 2 ≤ k → (R = true → ∀ b, a ≤ b → b ≤ X → b % 8 ≠ q) →
    sender_ack.l0 k q a N l R B X W O = some (0, [], false, 0, 0, 0, false, 11) := by
  intro n
  induction n with
  | zero =>
    intro k a h0 hn hk hb
    obtain ⟨k, rfl⟩ : ∃ m, k = m + 2 := ⟨k - 2, by omega⟩
    rw [sender_ack.l0]
    have e : decide (a ≤ X) = false := decide_eq_false (by omega)
    cases R
    · rw [if_neg (by decide), sender_ack.j1, if_neg (by decide)]
    · rw [if_pos rfl, e, sender_ack.j1, if_neg (by decide)]
  | succ n ih =>
    intro k a h0 hn hk hb
    obtain ⟨k, rfl⟩ : ∃ m, k = m + 2 := ⟨k - 2, by omega⟩
    rw [sender_ack.l0]
    cases R
    · rw [if_neg (by decide), sender_ack.j1, if_neg (by decide)]
    · rw [if_pos rfl, sender_ack.j1]
      by_cases h : a ≤ X
      · have h8 := hb rfl a (by omega) h
        rw [decide_eq_true h, if_pos rfl, Int.tmod_eq_emod_of_nonneg h0, if_neg h8, wraps64 _ (by omega) (by omega), ih k (a + 1) (by omega) (by omega) (by omega) (fun hr b hb1 hb2 => hb hr b (by omega) hb2)]
      · rw [decide_eq_false h, if_neg (by decide)]
theorem ack_hit (q N : Int) (l : List Int) (B X W : Int) (O : Bool) (t : Int) (hl : (l.length : Int) ≤ 6000) (hX : X ≤ 300) (ht : t ≤ X) (hq : t % 8 = q) : ∀ (n : Nat) (k : Nat) (a : Int), 0 ≤ a → a ≤ t → t < a + 8 → (t - a).toNat ≤ n → 2 * n + 2 ≤ k →
    sender_ack.l0 k q a N l true B X W O = some (N, l, true, t, X, 3, O, 0) := by
  intro n
  induction n with
  | zero =>
    intro k a h0 h1 h2 hn hk
    obtain ⟨k, rfl⟩ : ∃ m, k = m + 2 := ⟨k - 2, by omega⟩
    obtain rfl : a = t := by omega
    rw [sender_ack.l0, if_pos rfl, sender_ack.j1, decide_eq_true (show a ≤ X by omega), if_pos rfl, Int.tmod_eq_emod_of_nonneg h0, if_pos hq, twin_eq _ _ _ _ _ _ _ hl, Option.bind_some]
  | succ n ih =>
    intro k a h0 h1 h2 hn hk
    obtain ⟨k, rfl⟩ : ∃ m, k = m + 2 := ⟨k - 2, by omega⟩
    rw [sender_ack.l0, if_pos rfl, sender_ack.j1, decide_eq_true (show a ≤ X by omega), if_pos rfl, Int.tmod_eq_emod_of_nonneg h0]
    by_cases h : a = t
    · subst h
      rw [if_pos hq, twin_eq _ _ _ _ _ _ _ hl, Option.bind_some]
    · rw [if_neg (by omega), wraps64 _ (by omega) (by omega), ih k (a + 1) (by omega) (by omega) (by omega) (by omega) (by omega)]
/-- What a right sending makes of a right frame. -/
theorem hear_eq (k : Nat) (hk : 2 ≤ k) (N : Int) (l : List Int) (R : Bool) (B X W : Int) (O : Bool) (K N2 F S : Int) (d : List Int) (h : RS N l.length R B X W) :
    sender_Hear.f k N l R B X W O K N2 F S d = sender_Hear.j0 k (if RF K N2 F S d.length then 0 else 1) N l R B X W O K N2 F S d := by
  unfold sender_Hear.f
  rw [scheck, if_pos h, Option.bind_some, if_pos rfl, check_eq k hk, Option.bind_some]
theorem keep_send (k : Nat) (N N2 : Int) (l l2 : List Int) (R R2 : Bool) (B B2 X X2 W W2 : Int) (O O2 : Bool) (hn : l.length < 2 ^ 62) (hk : l.length < k) :
    wherrykeep_Send.f k N l R B X W O N2 l2 R2 B2 X2 W2 O2 = some (decide (N = N2 ∧ l = l2 ∧ R = R2 ∧ B = B2 ∧ X = X2 ∧ W = W2 ∧ O = O2)) := by
  unfold wherrykeep_Send.f
  by_cases h1 : N = N2
  · rw [if_pos h1, keep_bytes _ _ hn k hk, Option.bind_some]
    by_cases h2 : l = l2
    · rw [decide_eq_true h2, if_pos rfl]
      by_cases h3 : R = R2
      · rw [if_pos (beq_iff_eq.2 h3)]
        by_cases h4 : B = B2
        · rw [if_pos h4]
          by_cases h5 : X = X2
          · rw [if_pos h5]
            by_cases h6 : W = W2
            · rw [if_pos h6]; congr 1
              by_cases h7 : O = O2
              · rw [decide_eq_true ⟨h1, h2, h3, h4, h5, h6, h7⟩, beq_iff_eq.2 h7]
              · rw [decide_eq_false (fun h => h7 h.2.2.2.2.2.2)]; exact beq_eq_false_iff_ne.2 h7
            · rw [if_neg h6, decide_eq_false (fun h => h6 h.2.2.2.2.2.1)]
          · rw [if_neg h5, decide_eq_false (fun h => h5 h.2.2.2.2.1)]
        · rw [if_neg h4, decide_eq_false (fun h => h4 h.2.2.2.1)]
      · rw [if_neg (fun h => h3 (beq_iff_eq.1 h)), decide_eq_false (fun h => h3 h.2.2.1)]
    · rw [decide_eq_false h2, if_neg (by decide), decide_eq_false (fun h => h2 h.2.1)]
  · rw [if_neg h1, decide_eq_false (fun h => h1 h.1)]
end Go.Proofs.Ytlbajfhioebphaa.FA
