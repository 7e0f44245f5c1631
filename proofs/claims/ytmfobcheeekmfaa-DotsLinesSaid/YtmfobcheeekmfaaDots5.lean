/- The reference's Body is the automaton. -/
import Derived.Test.YtmfobcheeekmfaaDots4
namespace Go.Proofs.Ytmfobcheeekmfaa.FA
set_option linter.unusedSimpArgs false
set_option linter.unnecessarySimpa false
set_option linter.unusedVariables false
open Go.RowKit Go.Proofs.YtmfobcheeekmfaaW.PrintWords Go.Proofs.YtmfobcheeekmfaaW.PrintLast Go.Proofs.YtmfobcheeekmfaaW.PrintMore Go.Proofs.Ytmfobcheeekmfaa.Nums

theorem rd_at (p : List Int) (x : Int) (r : List Int) : rd (p ++ x :: r) (p.length : Int) = x := by simp [rd]
/-- What the automaton holds behind p. -/
def sta (p : List Int) : Nat := match p.getLast? with | none => 0 | some x => if x = 13 then 2 else if x = 10 then 0 else 1
theorem sta_snoc (p : List Int) (x : Int) : sta (p ++ [x]) = if x = 13 then 2 else if x = 10 then 0 else 1 := by simp [sta]
theorem body_l0 (k : Nat) : ∀ (r p : List Int), (p ++ r).length < 100000 → (sta p = 2 → ∃ r', r = 10 :: r') →
    wherryref11_Body.l0 (k + r.length + 1) (p ++ r) (p.length : Int) = some (au r (sta p))
  | [], p, hl, hs => by
    rw [wherryref11_Body.l0, if_neg (by simp)]
    have h2 : sta p ≠ 2 := fun h => by obtain ⟨r', e⟩ := hs h; cases e
    rw [List.append_nil]
    rcases List.eq_nil_or_concat p with rfl | ⟨q, x, rfl⟩
    · simp [au, sta]
    · rw [List.concat_eq_append] at *
      have hlen : (q ++ [x]).length = q.length + 1 := by simp
      rw [if_neg (by omega), if_pos (by simp at hl; rw [w64 _ (by omega) (by omega)]; omega), if_pos (by simp at hl; rw [w64 _ (by omega) (by omega)]; omega)]
      have e : wrap64 (((q ++ [x]).length : Int) - 1) = (q.length : Int) := by simp at hl; rw [w64 _ (by omega) (by omega)]; omega
      rw [e, rd_at, sta_snoc]
      rw [sta_snoc] at h2
      by_cases h13 : x = 13
      · rw [if_pos h13] at h2; exact absurd rfl h2
      · rw [if_neg h13]
        by_cases h10 : x = 10
        · simp [h10, au]
        · simp [h10, au]
  | x :: r, p, hl, hs => by
    have hlen : (p ++ x :: r).length = p.length + 1 + r.length := by simp; omega
    have ih := body_l0 k r (p ++ [x]) (by simp at hl ⊢; omega)
    rw [show p ++ [x] ++ r = p ++ x :: r by simp, show (((p ++ [x]).length : Nat) : Int) = (p.length : Int) + 1 by simp, sta_snoc] at ih
    rw [show k + (x :: r).length + 1 = (k + r.length + 1) + 1 by simp; omega, wherryref11_Body.l0, if_pos (by omega), if_pos (by omega), rd_at, w64 ((p.length : Int) + 1) (by omega) (by omega)]
    by_cases h13 : x = 13
    · rw [if_pos h13]
      have h2 : sta p ≠ 2 := fun h => by obtain ⟨r', e⟩ := hs h; have := (List.cons.inj e).1; omega
      have ea : au (x :: r) (sta p) = au r 2 := by simp only [au]; rw [if_neg h2, if_pos h13]
      rw [ea]
      rcases r with _ | ⟨y, r⟩
      · rw [if_pos (by simp at hlen ⊢)]; simp [au]
      · rw [if_neg (by simp at hlen ⊢; omega), if_pos (by omega), if_pos (by simp at hlen ⊢; omega)]
        have e2 : rd (p ++ x :: y :: r) ((p.length : Int) + 1) = y := by
          have := rd_at (p ++ [x]) y r
          simpa using this
        rw [e2]
        by_cases h10 : y = 10
        · rw [if_pos h10, if_neg (by omega)]
          rw [if_pos h13] at ih
          exact ih (fun _ => ⟨r, by rw [h10]⟩)
        · rw [if_neg h10]; simp [au, h10]
    · rw [if_neg h13]
      by_cases h10 : x = 10
      · rw [if_pos h10]
        rw [if_neg h13, if_pos h10] at ih
        rcases List.eq_nil_or_concat p with rfl | ⟨q, z, rfl⟩
        · rw [if_pos (by simp)]; simp [sta, au, h13, h10]
        · rw [List.concat_eq_append] at *
          have hq : (q ++ [z]).length = q.length + 1 := by simp
          have e3 : wrap64 (((q ++ [z]).length : Int) - 1) = (q.length : Int) := by rw [w64 _ (by omega) (by omega)]; omega
          rw [if_neg (by omega), e3, if_pos (by omega), if_pos (by omega)]
          have e4 : rd (q ++ [z] ++ x :: r) (q.length : Int) = z := by
            have := rd_at q z (x :: r)
            simpa using this
          rw [e4, sta_snoc]
          by_cases hz : z = 13
          · rw [if_pos hz, if_pos hz, ih (fun h => by omega)]
            simp [au, h10]
          · rw [if_neg hz, if_neg hz]
            congr 1
            symm
            simp only [au]
            rw [if_neg (by split <;> omega), if_neg h13, if_pos h10]
      · rw [if_neg h10]
        rw [if_neg h13, if_neg h10] at ih
        rw [ih (fun h => by omega)]
        have h2 : sta p ≠ 2 := fun h => by obtain ⟨r', e⟩ := hs h; exact h10 (List.cons.inj e).1
        congr 1
        simp only [au]
        rw [if_neg h2, if_neg h13, if_neg h10]
theorem body_eq (k : Nat) (b : List Int) (hl : b.length < 100000) (hk : b.length < k) : wherryref11_Body.f k b = some (au b 0) := by
  obtain ⟨m, rfl⟩ : ∃ m, k = m + b.length + 1 := ⟨k - b.length - 1, by omega⟩
  have := body_l0 m b [] (by simpa using hl) (by simp [sta])
  unfold wherryref11_Body.f
  simpa [sta] using this
end Go.Proofs.Ytmfobcheeekmfaa.FA
