/- SenderAcks: what it computes is true. -/
import Derived.Test.YtlbajfhioebphaaSend
import Derived.Test.YtlbajfhioebphaaSaySenderAcks
namespace Go.Proofs.Ytlbajfhioebphaa.Pure
open Go.RowKit Go.Proofs.Ytlbajfhioebphaa.FA Go.Proofs.YtlbajfhioebphaaW.PrintWords Go.Proofs.YtlbajfhioebphaaW.PrintLast Go.Proofs.YtlbajfhioebphaaW.PrintMore Go.Proofs.Ytlbajfhioebphaa.Nums
section
variable (q e N : Int) (l : List Int) (R : Bool) (B X W : Int) (O : Bool) (N2 : Int) (l2 : List Int) (R2 : Bool) (B2 X2 W2 : Int) (O2 : Bool)
/-- What the law says at the end, by the last place that it found. -/
abbrev fin (at_ : Int) : Prop := ∀ k, 3 ≤ k → wherrylaw21_SenderAcks.j2 k q e at_ 0 false N l R B X W O N2 l2 R2 B2 X2 W2 O2 = some true
theorem j2_false (k : Nat) (at_ a : Int) : wherrylaw21_SenderAcks.j2 k q e at_ a false N l R B X W O N2 l2 R2 B2 X2 W2 O2 = wherrylaw21_SenderAcks.j2 k q e at_ 0 false N l R B X W O N2 l2 R2 B2 X2 W2 O2 := by
  cases k with
  | zero => rfl
  | succ k => rw [wherrylaw21_SenderAcks.j2, wherrylaw21_SenderAcks.j2]; rfl
theorem law_none (hX : X ≤ 300) (at_ : Int) (hf : fin q e N l R B X W O N2 l2 R2 B2 X2 W2 O2 at_) : ∀ (n : Nat) (k : Nat) (a : Int), 0 ≤ a → (X + 1 - a).toNat ≤ n → 2 * n + 5 ≤ k → (R = true → ∀ b, a ≤ b → b ≤ X → b % 8 ≠ q) →
    wherrylaw21_SenderAcks.l0 k q e at_ a N l R B X W O N2 l2 R2 B2 X2 W2 O2 = some true := by
  intro n
  induction n with
  | zero =>
    intro k a h0 hn hk hb
    obtain ⟨k, rfl⟩ : ∃ m, k = m + 2 := ⟨k - 2, by omega⟩
    rw [wherrylaw21_SenderAcks.l0, if_neg (by omega), j2_false]
    exact hf _ (by omega)
  | succ n ih =>
    intro k a h0 hn hk hb
    obtain ⟨k, rfl⟩ : ∃ m, k = m + 2 := ⟨k - 2, by omega⟩
    rw [wherrylaw21_SenderAcks.l0]
    by_cases h : a ≤ X
    · rw [if_pos h]
      by_cases hR : R = true
      · have h8 := hb hR a (by omega) h
        subst hR
        rw [wherrylaw21_SenderAcks.j2, if_pos rfl, Int.tmod_eq_emod_of_nonneg h0, if_neg h8, wraps64 _ (by omega) (by omega)]
        exact ih k (a + 1) (by omega) (by omega) (by omega) (fun hr b hb1 hb2 => hb hr b (by omega) hb2)
      · have hR' : R = false := by cases R <;> simp_all
        subst hR'
        rw [j2_false]
        exact hf _ (by omega)
    · rw [if_neg h, j2_false]
      exact hf _ (by omega)
theorem law_hit (hX : X ≤ 300) (t : Int) (ht : t ≤ X) (htX : X < t + 8) (hq : t % 8 = q) (hR : R = true) (hf : fin q e N l R B X W O N2 l2 R2 B2 X2 W2 O2 t) : ∀ (n : Nat) (k : Nat) (a at_ : Int), 0 ≤ a → a ≤ t → t < a + 8 → (t - a).toNat ≤ n → 2 * n + 625 ≤ k →
    wherrylaw21_SenderAcks.l0 k q e at_ a N l R B X W O N2 l2 R2 B2 X2 W2 O2 = some true := by
  subst hR
  intro n
  induction n with
  | zero =>
    intro k a at_ h0 h1 h2 hn hk
    obtain ⟨k, rfl⟩ : ∃ m, k = m + 2 := ⟨k - 2, by omega⟩
    obtain rfl : a = t := by omega
    rw [wherrylaw21_SenderAcks.l0, if_pos ht, wherrylaw21_SenderAcks.j2, if_pos rfl, Int.tmod_eq_emod_of_nonneg h0, if_pos hq, wraps64 _ (by omega) (by omega)]
    exact law_none q e N l true B X W O N2 l2 R2 B2 X2 W2 O2 hX a hf 300 k (a + 1) (by omega) (by omega) (by omega) (fun _ b hb1 hb2 => by omega)
  | succ n ih =>
    intro k a at_ h0 h1 h2 hn hk
    obtain ⟨k, rfl⟩ : ∃ m, k = m + 2 := ⟨k - 2, by omega⟩
    rw [wherrylaw21_SenderAcks.l0, if_pos (by omega), wherrylaw21_SenderAcks.j2, if_pos rfl, Int.tmod_eq_emod_of_nonneg h0]
    by_cases h : a = t
    · subst h
      rw [if_pos hq, wraps64 _ (by omega) (by omega)]
      exact law_none q e N l true B X W O N2 l2 R2 B2 X2 W2 O2 hX a hf 300 k (a + 1) (by omega) (by omega) (by omega) (fun _ b hb1 hb2 => by omega)
    · rw [if_neg (by omega), wraps64 _ (by omega) (by omega)]
      exact ih k (a + 1) at_ (by omega) (by omega) (by omega) (by omega) (by omega)
end
theorem SenderAcks : wherrylaw21_SenderAcks.Pure := by
  intro N l R B X W O s _ _ _ _ _ _ _
  refine ⟨1000, ?_⟩
  unfold wherrylaw21_SenderAcks.f
  by_cases h1 : (l.length : Int) > 5100
  · rw [if_pos h1, wherrylaw21_SenderAcks.j0, if_pos rfl]
  rw [if_neg h1, ref_send _ _ _ _ _ _ _ (by omega), Option.bind_some]
  by_cases hr : RS N l.length R B X W
  · rw [decide_eq_true hr, if_pos rfl, wherrylaw21_SenderAcks.j0]
    cases O
    · rw [if_neg (by decide), wrap_u64, Int.tmod_eq_emod_of_nonneg (by omega), wraps64 _ (by omega) (by omega), hear_eq _ (by omega) _ _ _ _ _ _ _ _ _ _ _ _ hr, if_pos ⟨hr.1, Or.inr (Or.inr (Or.inl ⟨rfl, rfl, by omega, by omega, rfl⟩))⟩]
      generalize hq : s % 18446744073709551616 % 8 = q
      have q0 : 0 ≤ q ∧ q < 8 := by omega
      clear hq
      have hB := hr.2.2.2.2.1
      have hX := hr.2.2.2.2.2
      have hL := hr.2.1
      have hc : cnt l.length ≤ 200 := by unfold cnt; omega
      rw [sender_Hear.j0, if_pos rfl, if_pos rfl, if_neg (by decide), if_neg (by decide), if_pos rfl, wraps64 (B + 1) (by omega) (by omega)]
      unfold sender_ack.f
      rw [wraps64 (B + 1) (by omega) (by omega)]
      by_cases hh : R = true ∧ ∃ t, B + 1 ≤ t ∧ t ≤ X ∧ t % 8 = q
      · obtain ⟨hR, t, t1, t2, t3⟩ := hh
        subst hR
        rw [ack_hit q N l B X W false t (by omega) (by omega) t2 t3 300 _ (B + 1) (by omega) t1 (by omega) (by omega) (by omega), Option.bind_some, Option.bind_some]
        refine law_hit q 0 N l true B X W false _ _ _ _ _ _ _ (by omega) t t2 (by omega) t3 rfl ?_ 100 _ (B + 1) (-1) (by omega) t1 (by omega) (by omega) (by omega)
        intro k hk
        obtain ⟨k, rfl⟩ : ∃ m, k = m + 1 := ⟨k - 1, by omega⟩
        rw [wherrylaw21_SenderAcks.j2, if_neg (by decide), if_neg (by omega), if_pos rfl, if_pos rfl, if_pos rfl, if_pos rfl, if_pos rfl, wakes_eq _ (by omega)]
        rfl
      · have hb : R = true → ∀ b, B + 1 ≤ b → b ≤ X → b % 8 ≠ q := fun hR b b1 b2 b3 => hh ⟨hR, b, b1, b2, b3⟩
        rw [ack_none q N l R B X W false (by omega) 400 _ (B + 1) (by omega) (by omega) (by omega) hb, Option.bind_some, Option.bind_some]
        refine law_none q 11 N l R B X W false _ _ _ _ _ _ _ (by omega) (-1) ?_ 400 _ (B + 1) (by omega) (by omega) (by omega) hb
        intro k hk
        obtain ⟨k, rfl⟩ : ∃ m, k = m + 1 := ⟨k - 1, by omega⟩
        rw [wherrylaw21_SenderAcks.j2, if_neg (by decide), if_pos (by decide), if_pos rfl, keep_send _ _ _ _ _ _ _ _ _ _ _ _ _ _ _ (by simp) (by simp; omega), Option.bind_some, decide_eq_true ⟨rfl, rfl, rfl, rfl, rfl, rfl, rfl⟩, if_pos rfl, wakes_eq _ (by omega)]
        rfl
    · rw [if_pos rfl]
  · rw [decide_eq_false hr, if_neg (by decide), wherrylaw21_SenderAcks.j0, if_pos rfl]
end Go.Proofs.Ytlbajfhioebphaa.Pure
