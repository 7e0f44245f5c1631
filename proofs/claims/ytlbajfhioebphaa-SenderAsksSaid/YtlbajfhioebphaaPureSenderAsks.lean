/- SenderAsks: what it computes is true. -/
import Derived.Test.YtlbajfhioebphaaSendTick
import Derived.Test.YtlbajfhioebphaaSendFrame
import Derived.Test.YtlbajfhioebphaaSaySenderAsks
namespace Go.Proofs.Ytlbajfhioebphaa.Pure
open Go.RowKit Go.Proofs.Ytlbajfhioebphaa.FA Go.Proofs.YtlbajfhioebphaaW.PrintWords Go.Proofs.YtlbajfhioebphaaW.PrintLast Go.Proofs.YtlbajfhioebphaaW.PrintMore Go.Proofs.Ytlbajfhioebphaa.Nums
theorem asks_over (T N : Int) (l : List Int) (R : Bool) (B X W : Int) (hT : T ≤ 30) (h : RS N l.length R B X W) : ∀ (n : Nat) (k : Nat) (q i : Int) (a : Bool), 0 ≤ i → (T - i).toNat ≤ n → n + 10 ≤ k →
    wherrylaw21_SenderAsks.l0 k T q a i N l R B X W true = some true := by
  intro n
  induction n with
  | zero =>
    intro k q i a h0 hn hk
    obtain ⟨k, rfl⟩ : ∃ m, k = m + 1 := ⟨k - 1, by omega⟩
    rw [wherrylaw21_SenderAsks.l0, if_neg (by omega), if_pos rfl, wakes_eq _ (by omega)]
    rfl
  | succ n ih =>
    intro k q i a h0 hn hk
    obtain ⟨k, rfl⟩ : ∃ m, k = m + 1 := ⟨k - 1, by omega⟩
    rw [wherrylaw21_SenderAsks.l0]
    by_cases hi : i < T
    · have ih' := fun q a => ih k q (i + 1) a (by omega) (by omega) (by omega)
      rw [if_pos hi, tick_over _ _ _ _ _ _ _ h, Option.bind_some, wraps64 (i + 1) (by omega) (by omega)]
      by_cases hq : 3 < wrap64 (q + 1) <;> cases a <;> simp [hq, ih']
    · rw [if_neg hi, if_pos rfl, wakes_eq _ (by omega)]
      rfl
/-- How many ticks on it is asked. -/
def need (L : Int) (R : Bool) (B X W : Int) : Int := if R = true ∧ X < mn (B + 7) (cnt L) then 5 else W + 1
theorem asks_loop (T N : Int) (l : List Int) (hT : T ≤ 30) : ∀ (n : Nat) (k : Nat) (q i : Int) (a : Bool) (R : Bool) (B X W : Int), RS N l.length R B X W → 0 ≤ i → (T - i).toNat ≤ n → n + 400 ≤ k → 0 ≤ q → q + W ≤ 3 → (a = true ∨ i + need l.length R B X W ≤ 5) →
    wherrylaw21_SenderAsks.l0 k T q a i N l R B X W false = some true := by
  intro n
  have last : ∀ (k : Nat) (q i : Int) (a : Bool) (R : Bool) (B X W : Int), RS N l.length R B X W → 0 ≤ i → ¬ i < T → 400 ≤ k → (a = true ∨ i + need l.length R B X W ≤ 5) →
      wherrylaw21_SenderAsks.l0 k T q a i N l R B X W false = some true := by
    intro k q i a R B X W h h0 hi hk ha
    obtain ⟨k, rfl⟩ : ∃ m, k = m + 1 := ⟨k - 1, by omega⟩
    have hW := h.2.2.1
    rw [wherrylaw21_SenderAsks.l0, if_neg hi, if_neg (by decide), wakes_eq _ (by omega)]
    by_cases h9 : T < 9
    · rw [if_pos h9]; rfl
    · rcases ha with ha | ha
      · rw [if_neg h9, if_pos ha]; rfl
      · exfalso; unfold need at ha; split at ha <;> omega
  induction n with
  | zero => intro k q i a R B X W h h0 hn hk _ _ ha; exact last k q i a R B X W h h0 (by omega) (by omega) ha
  | succ n ih =>
    intro k q i a R B X W h h0 hn hk hq hqW ha
    by_cases hi : i < T
    · obtain ⟨k, rfl⟩ : ∃ m, k = m + 1 := ⟨k - 1, by omega⟩
      obtain ⟨hN, hL, hW, hRS, hB, hX⟩ := h
      have h : RS N l.length R B X W := ⟨hN, hL, hW, hRS, hB, hX⟩
      rw [wherrylaw21_SenderAsks.l0, if_pos hi, wraps64 (i + 1) (by omega) (by omega), wraps64 (q + 1) (by omega) (by omega)]
      by_cases hs : R = true ∧ X < mn (B + 7) (cnt l.length)
      · obtain ⟨rfl, hs⟩ := hs
        have hm : mn (B + 7) (cnt l.length) ≤ B + 7 ∧ mn (B + 7) (cnt l.length) ≤ cnt l.length := (le_mn).1 (Int.le_refl _)
        have ih' := fun a' (ha' : a' = true ∨ i + 1 + 4 ≤ 5) => ih k 0 (i + 1) a' true B (mn (B + 7) (cnt l.length)) 3 ⟨hN, hL, by omega, Or.inl rfl, hB, by omega⟩ (by omega) (by omega) (by omega) (by omega) (by omega) (by
          rcases ha' with h' | h'
          · exact Or.inl h'
          · refine Or.inr ?_; unfold need; rw [if_neg (by omega)]; omega)
        have hi5 : a = true ∨ i + 1 + 4 ≤ 5 := by
          rcases ha with h' | h'
          · exact Or.inl h'
          · unfold need at h'; rw [if_pos ⟨rfl, hs⟩] at h'; exact Or.inr (by omega)
        rw [tick_sends _ (by omega) _ _ _ _ _ h hs, Option.bind_some]
        obtain ⟨m, hm1⟩ : ∃ m, (mn (B + 7) (cnt l.length) - X).toNat = m + 1 := ⟨(mn (B + 7) (cnt l.length) - X).toNat - 1, by omega⟩
        rw [hm1, pcs]
        generalize hfs : pcs N l m (X + 1) = fs
        simp only []
        rw [if_pos trivial, if_pos (by simp only [List.length_cons]; omega)]
        cases a
        · rw [if_neg (by decide)]
          have hi5' := hi5.resolve_left (by decide)
          by_cases h1 : ((chunkF N l X :: fs).length : Int) = 1
          · rw [if_pos h1, if_pos (by omega), if_neg (by decide), if_neg (by decide)]
            have e : ((rd_T32 (chunkF N l X :: fs) 0).f0 == 1) = false := rfl
            rw [e]; exact ih' false (Or.inr hi5')
          · rw [if_neg h1, if_neg (by decide), if_neg (by decide)]; exact ih' false (Or.inr hi5')
        · rw [if_pos rfl, if_neg (by decide), if_neg (by decide)]; exact ih' true (Or.inl rfl)
      · by_cases hw : 0 < W
        · have ih' := ih k (q + 1) (i + 1) a R B X (W - 1) ⟨hN, hL, by omega, hRS, hB, hX⟩ (by omega) (by omega) (by omega) (by omega) (by omega) (by
            rcases ha with h' | h'
            · exact Or.inl h'
            · refine Or.inr ?_; unfold need at h' ⊢; rw [if_neg hs] at h' ⊢; omega)
          rw [tick_waits _ (by omega) _ _ _ _ _ _ h hs hw, Option.bind_some]
          simp only []
          rw [if_pos trivial, if_neg (by simp)]
          cases a
          · rw [if_neg (by decide), if_neg (by simp), if_neg (by omega), if_neg (by decide)]; exact ih'
          · rw [if_pos rfl, if_neg (by omega), if_neg (by decide)]; exact ih'
        · have ih' : ∀ R' B' X', RS N l.length R' B' X' 3 → wherrylaw21_SenderAsks.l0 k T 0 true (i + 1) N l R' B' X' 3 false = some true :=
            fun R' B' X' h' => ih k 0 (i + 1) true R' B' X' 3 h' (by omega) (by omega) (by omega) (by omega) (by omega) (Or.inl rfl)
          have e : ∀ L : Int, ((rd_T32 [(⟨1, N, L, 0, []⟩ : S32)] 0).f0 == 1) = true := fun _ => rfl
          rw [tick_asks _ (by omega) _ _ _ _ _ _ h hs (by omega)]
          by_cases hb : B < cnt l.length
          · rw [if_pos hb, Option.bind_some]
            simp only []
            rw [if_pos trivial, if_pos (by simp)]
            have g := ih' false 0 0 ⟨hN, hL, by omega, Or.inr ⟨rfl, rfl⟩, by omega, by omega⟩
            cases a
            · rw [if_neg (by decide), if_pos (by simp), if_pos (by simp), if_neg (by decide), if_neg (by decide), e]; exact g
            · rw [if_pos rfl, if_neg (by decide), if_neg (by decide)]; exact g
          · rw [if_neg hb, Option.bind_some]
            simp only []
            rw [if_pos trivial, if_pos (by simp)]
            have g := ih' R B X ⟨hN, hL, by omega, hRS, hB, hX⟩
            cases a
            · rw [if_neg (by decide), if_pos (by simp), if_pos (by simp), if_neg (by decide), if_neg (by decide), e]; exact g
            · rw [if_pos rfl, if_neg (by decide), if_neg (by decide)]; exact g
    · exact last k q i a R B X W h h0 hi (by omega) ha
theorem SenderAsks : wherrylaw21_SenderAsks.Pure := by
  intro N l R B X W O s _ _ _ _ _ _ _
  refine ⟨1000, ?_⟩
  unfold wherrylaw21_SenderAsks.f
  by_cases h1 : (l.length : Int) > 5100
  · rw [if_pos h1, wherrylaw21_SenderAsks.j0, if_pos rfl]
  rw [if_neg h1, ref_send _ _ _ _ _ _ _ (by omega), Option.bind_some]
  by_cases hr : RS N l.length R B X W
  · have hW := hr.2.2.1
    rw [decide_eq_true hr, wherrylaw21_SenderAsks.j0, if_neg (by decide), wrap_u64, Int.tmod_eq_emod_of_nonneg (by omega), wraps64 (s % 18446744073709551616 % 30) (by omega) (by omega), wraps64 _ (by omega) (by omega)]
    cases O
    · exact asks_loop _ N l (by omega) 40 _ 0 0 false R B X W hr (by omega) (by omega) (by omega) (by omega) (by omega) (Or.inr (by unfold need; split <;> omega))
    · exact asks_over _ N l R B X W (by omega) hr 40 _ 0 0 false (by omega) (by omega) (by omega)
  · rw [decide_eq_false hr, wherrylaw21_SenderAsks.j0, if_pos (by decide)]
end Go.Proofs.Ytlbajfhioebphaa.Pure
