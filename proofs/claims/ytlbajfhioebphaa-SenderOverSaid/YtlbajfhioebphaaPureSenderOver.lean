/- SenderOver: what it computes is true. -/
import Derived.Test.YtlbajfhioebphaaSendFrame
import Derived.Test.YtlbajfhioebphaaSaySenderOver
namespace Go.Proofs.Ytlbajfhioebphaa.Pure
open Go.RowKit Go.Proofs.Ytlbajfhioebphaa.FA Go.Proofs.YtlbajfhioebphaaW.PrintWords Go.Proofs.YtlbajfhioebphaaW.PrintLast Go.Proofs.YtlbajfhioebphaaW.PrintMore Go.Proofs.Ytlbajfhioebphaa.Nums
theorem over_j2 (k : Nat) (hk : 5200 ≤ k) (N : Int) (l : List Int) (R : Bool) (B X W : Int) (hl : (l.length : Int) ≤ 5100) :
    wherrylaw21_SenderOver.j2 k [] 0 false N l R B X W true 0 [] false 0 0 0 false N l R B X W true = some true := by
  obtain ⟨k, rfl⟩ : ∃ m, k = m + 1 := ⟨k - 1, by omega⟩
  rw [wherrylaw21_SenderOver.j2, if_neg (by decide), keep_send _ _ _ _ _ _ _ _ _ _ _ _ _ _ _ (by simp) (by simp; omega), Option.bind_some, decide_eq_true ⟨rfl, rfl, rfl, rfl, rfl, rfl, rfl⟩, if_pos rfl, if_pos rfl, if_pos (by simp),
    keep_send _ _ _ _ _ _ _ _ _ _ _ _ _ _ _ (by omega) (by omega), Option.bind_some, decide_eq_true ⟨rfl, rfl, rfl, rfl, rfl, rfl, rfl⟩, if_pos rfl, wakes_eq _ (by omega)]
  rfl
theorem SenderOver : wherrylaw21_SenderOver.Pure := by
  intro N l R B X W O K N2 F S d _ _ _ _ _ _ _ _ _ _ _ _
  refine ⟨7000, ?_⟩
  unfold wherrylaw21_SenderOver.f
  by_cases h1 : (l.length : Int) > 5100
  · rw [if_pos h1, wherrylaw21_SenderOver.j0, if_pos rfl]
  rw [if_neg h1]
  by_cases h2 : (d.length : Int) > 300
  · rw [if_pos h2, wherrylaw21_SenderOver.j0, if_pos rfl]
  rw [if_neg h2, ref_send _ _ _ _ _ _ _ (by omega), Option.bind_some]
  by_cases hr : RS N l.length R B X W
  · have hL := hr.2.1
    rw [decide_eq_true hr, wherrylaw21_SenderOver.j0, if_neg (by decide)]
    have hd : RF 5 N 0 0 (([] : List Int).length) := ⟨hr.1, Or.inr (Or.inr (Or.inr ⟨rfl, rfl, rfl, rfl⟩))⟩
    cases O
    · rw [hear_eq _ (by omega) _ _ _ _ _ _ _ _ _ _ _ _ hr, if_pos hd, sender_Hear.j0, if_pos rfl, if_pos rfl, if_neg (by decide), if_neg (by decide), if_neg (by decide), if_pos rfl, twin_eq _ _ _ _ _ _ _ (by omega), Option.bind_some, Option.bind_some, if_neg (by decide), if_pos rfl]
      simp only []
      rw [wherrylaw21_SenderOver.j1, if_neg (by simp)]
      rw [hear_over _ (by omega) _ _ _ _ _ _ _ _ _ _ _ hr, tick_over _ _ _ _ _ _ _ hr, ref_frame _ _ _ _ _ _ (by omega) (by omega)]
      rw [Option.bind_some, Option.bind_some, Option.bind_some, Option.bind_some]
      by_cases hf : RF K N2 F S d.length
      · rw [decide_eq_true hf, if_pos rfl, if_pos hf, if_pos rfl, if_pos rfl]
        exact over_j2 _ (by omega) _ _ _ _ _ _ (by omega)
      · rw [decide_eq_false hf, if_neg (by decide), if_neg hf, if_neg (by decide)]
        exact over_j2 _ (by omega) _ _ _ _ _ _ (by omega)
    · rw [hear_over _ (by omega) _ _ _ _ _ _ _ _ _ _ _ hr, if_pos hd, Option.bind_some, if_pos rfl, if_pos rfl, keep_send _ _ _ _ _ _ _ _ _ _ _ _ _ _ _ (by simp) (by simp), Option.bind_some, decide_eq_true ⟨rfl, rfl, rfl, rfl, rfl, rfl, rfl⟩, if_pos rfl, wakes_eq _ (by omega)]
      rfl
  · rw [decide_eq_false hr, wherrylaw21_SenderOver.j0, if_pos (by decide)]
end Go.Proofs.Ytlbajfhioebphaa.Pure
