/- Right frames by the page; what a sending that is over says. -/
import Derived.Test.YtlbajfhioebphaaSend
import Derived.Test.YtlbajfhioebphaaFAx11
import Derived.Test.YtlbajfhioebphaaFAx10
import Derived.Test.YtlbajfhioebphaaFAx4
namespace Go.Proofs.Ytlbajfhioebphaa.FA
open Go.RowKit Go.Proofs.YtlbajfhioebphaaW.PrintWords Go.Proofs.YtlbajfhioebphaaW.PrintLast Go.Proofs.YtlbajfhioebphaaW.PrintMore Go.Proofs.Ytlbajfhioebphaa.Nums

theorem keep_frame (k : Nat) (K N O S K2 N2 O2 S2 : Int) (l l2 : List Int) (hn : l.length < 2 ^ 62) (hk : l.length < k) : wherrykeep_Frame.f k K N O S l K2 N2 O2 S2 l2 = some (decide (K = K2 ∧ N = N2 ∧ O = O2 ∧ S = S2 ∧ l = l2)) := by
  unfold wherrykeep_Frame.f
  by_cases h1 : K = K2
  · rw [if_pos h1]
    by_cases h2 : N = N2
    · rw [if_pos h2]
      by_cases h3 : O = O2
      · rw [if_pos h3]
        by_cases h4 : S = S2
        · rw [if_pos h4, keep_bytes _ _ hn k hk, Option.bind_some]
          congr 1
          exact decide_eq_decide.2 (by simp [h1, h2, h3, h4])
        · rw [if_neg h4, decide_eq_false (fun h => h4 h.2.2.2.1)]
      · rw [if_neg h3, decide_eq_false (fun h => h3 h.2.2.1)]
    · rw [if_neg h2, decide_eq_false (fun h => h2 h.2.1)]
  · rw [if_neg h1, decide_eq_false (fun h => h1 h.1)]
theorem len0 {l : List Int} : ([] : List Int) = l ↔ l.length = 0 := ⟨fun h => by rw [← h]; rfl, fun h => (List.eq_nil_of_length_eq_zero h).symm⟩
theorem ref_frame (k : Nat) (K N O S : Int) (l : List Int) (hn : l.length < 2 ^ 62) (hk : l.length + 2 < k) : wherryref18_Frame.f k K N O S l = some (decide (RF K N O S l.length)) := by
  obtain ⟨k, rfl⟩ : ∃ m, k = m + 1 := ⟨k - 1, by omega⟩
  unfold wherryref18_Frame.f
  rw [in_eq, Option.bind_some]
  have key : ∀ b : Bool, (b = true ↔ (K = 1 ∨ K = 2)) → wherryref18_Frame.j0 (k + 1) (decide (1 ≤ N ∧ N ≤ 65535)) K b K N O S l K N 0 0 = some (decide (RF K N O S l.length)) := by
    intro b hb
    simp only [wherryref18_Frame.j0]
    by_cases hN : 1 ≤ N ∧ N ≤ 65535
    · rw [decide_eq_true hN]
      by_cases h : b = true
      · have hK := hb.1 h
        rw [if_pos h, if_pos rfl, in_eq, Option.bind_some]
        by_cases h2 : 0 ≤ O ∧ O ≤ 5000
        · rw [decide_eq_true h2, if_pos rfl, keep_frame k _ _ _ _ _ _ _ _ _ _ (by simp) (by simp; omega), Option.bind_some]
          congr 1
          refine decide_eq_decide.2 ?_
          rw [len0]
          unfold RF
          omega
        · rw [decide_eq_false h2, if_neg (by simp), decide_eq_false (by unfold RF; omega)]
      · have hK : ¬ (K = 1 ∨ K = 2) := fun h2 => h (hb.2 h2)
        rw [if_neg h]
        by_cases h3 : K = 3
        · rw [if_pos h3, if_pos rfl, in_eq, Option.bind_some]
          by_cases h4 : 0 ≤ O ∧ O ≤ 5000
          · rw [decide_eq_true h4, if_pos rfl, in_eq, Option.bind_some]
            by_cases h5 : 0 ≤ S ∧ S ≤ 7
            · rw [decide_eq_true h5, if_pos rfl, in_eq, Option.bind_some]
              by_cases h6 : (1 : Int) ≤ (l.length : Int) ∧ (l.length : Int) ≤ 48
              · rw [decide_eq_true h6, if_pos rfl, keep_frame k _ _ _ _ _ _ _ _ _ _ hn (by omega), Option.bind_some]
                congr 1
                refine decide_eq_decide.2 ?_
                unfold RF
                constructor
                · intro _; omega
                · intro _; exact ⟨rfl, rfl, rfl, rfl, rfl⟩
              · rw [decide_eq_false h6, if_neg (by simp), decide_eq_false (by unfold RF; omega)]
            · rw [decide_eq_false h5, if_neg (by simp), decide_eq_false (by unfold RF; omega)]
          · rw [decide_eq_false h4, if_neg (by simp), decide_eq_false (by unfold RF; omega)]
        rw [if_neg h3]
        by_cases h4 : K = 4
        · rw [if_pos h4, if_pos rfl, in_eq, Option.bind_some]
          by_cases h5 : 0 ≤ S ∧ S ≤ 7
          · rw [decide_eq_true h5, if_pos rfl, keep_frame k _ _ _ _ _ _ _ _ _ _ (by simp) (by simp; omega), Option.bind_some]
            congr 1
            refine decide_eq_decide.2 ?_
            rw [len0]
            unfold RF
            omega
          · rw [decide_eq_false h5, if_neg (by simp), decide_eq_false (by unfold RF; omega)]
        rw [if_neg h4]
        by_cases h5 : K = 5
        · rw [if_pos h5, if_pos rfl, keep_frame k _ _ _ _ _ _ _ _ _ _ (by simp) (by simp; omega), Option.bind_some]
          congr 1
          refine decide_eq_decide.2 ?_
          rw [len0]
          unfold RF
          omega
        rw [if_neg h5, decide_eq_false (by unfold RF; omega)]
    · rw [decide_eq_false hN]
      have : ¬ RF K N O S l.length := fun h => hN h.1
      rw [decide_eq_false this]
      simp only [Bool.false_eq_true, if_false]
      repeat' first | rfl | split
  by_cases h : K = 1
  · rw [if_pos h]
    exact key _ (by simp [h])
  · rw [if_neg h]
    exact key _ (by simp [h])


theorem tick_over (k : Nat) (N : Int) (l : List Int) (R : Bool) (B X W : Int) (h : RS N l.length R B X W) : sender_Tick.f k N l R B X W true = some (N, l, R, B, X, W, true, [], 0) := by
  unfold sender_Tick.f
  have hL := h.2.1
  rw [scheck, if_pos h, Option.bind_some, if_pos rfl, twin_eq _ _ _ _ _ _ _ (by omega), Option.bind_some, if_pos rfl]
/-- A frame that comes to a sending that is over. -/
theorem hear_over (k : Nat) (hk : 2 ≤ k) (N : Int) (l : List Int) (R : Bool) (B X W : Int) (K N2 F S : Int) (d : List Int) (h : RS N l.length R B X W) :
    sender_Hear.f k N l R B X W true K N2 F S d = some (0, [], false, 0, 0, 0, false, if RF K N2 F S d.length then 11 else 1) := by
  rw [hear_eq k hk _ _ _ _ _ _ _ _ _ _ _ _ h]
  obtain ⟨k, rfl⟩ : ∃ m, k = m + 1 := ⟨k - 1, by omega⟩
  rw [sender_Hear.j0]
  by_cases hf : RF K N2 F S d.length
  · rw [if_pos hf, if_pos hf, if_pos rfl]
    by_cases hn : N2 = N
    · rw [if_pos hn, if_pos rfl]
    · rw [if_neg hn]
  · rw [if_neg hf, if_neg hf, if_neg (by decide)]
end Go.Proofs.Ytlbajfhioebphaa.FA
