/- Bytes of package wherrykeep tells whether two rows are the same. -/
import Derived.Test.YtfmjcogcoclhpaaFSumsExactx
import Derived.Test.YtfmjcogcoclhpaaNums
namespace Go.Proofs.Ytfmjcogcoclhpaa.PSumsExact
open Go.RowKit Go.Proofs.YtfmjcogcoclhpaaW.PrintWords Go.Proofs.YtfmjcogcoclhpaaW.PrintLast Go.Proofs.YtfmjcogcoclhpaaW.PrintMore Go.Proofs.Ytfmjcogcoclhpaa.Nums

theorem keep_bytes_l0 (xs ys : List Int) (hl : xs.length = ys.length) (hn : xs.length < 2 ^ 62) : ∀ (j k i : Nat), i ≤ xs.length → xs.length - i = j → j < k →
    wherrykeep_Bytes.l0 k xs ys i = some (decide (xs.drop i = ys.drop i)) := by
  intro j
  induction j with
  | zero =>
    intro k i hi hj hk
    obtain ⟨k, rfl⟩ : ∃ m, k = m + 1 := ⟨k - 1, by omega⟩
    simp only [wherrykeep_Bytes.l0]
    rw [if_neg (by omega), List.drop_of_length_le (by omega), List.drop_of_length_le (by omega)]
    rfl
  | succ j ih =>
    intro k i hi hj hk
    obtain ⟨k, rfl⟩ : ∃ m, k = m + 1 := ⟨k - 1, by omega⟩
    simp only [wherrykeep_Bytes.l0]
    have h1 : i < xs.length := by omega
    have h2 : i < ys.length := by omega
    have e1 : rd xs (i : Int) = xs[i] := by simp [rd, h1]
    have e2 : rd ys (i : Int) = ys[i] := by simp [rd, h2]
    rw [if_pos (by omega), if_pos (by omega), if_pos (by omega), e1, e2, List.drop_eq_getElem_cons h1, List.drop_eq_getElem_cons h2]
    by_cases h : xs[i] = ys[i]
    · rw [if_pos h, wraps64 _ (by omega) (by omega), show (i : Int) + 1 = ((i + 1 : Nat) : Int) by omega, ih k (i + 1) (by omega) (by omega) (by omega)]
      congr 1
      exact decide_eq_decide.2 ⟨fun e => by rw [h, e], fun e => (List.cons.inj e).2⟩
    · rw [if_neg h]
      congr 1
      symm
      exact decide_eq_false (fun e => h (List.cons.inj e).1)
theorem keep_bytes (xs ys : List Int) (hn : xs.length < 2 ^ 62) (k : Nat) (hk : xs.length < k) : wherrykeep_Bytes.f k xs ys = some (decide (xs = ys)) := by
  unfold wherrykeep_Bytes.f
  by_cases h : xs.length = ys.length
  · rw [if_pos (by omega)]
    have := keep_bytes_l0 xs ys h hn xs.length k 0 (by omega) (by omega) hk
    rw [List.drop_zero, List.drop_zero] at this
    exact this
  · rw [if_neg (by omega)]
    congr 1
    symm
    exact decide_eq_false (fun e => h (by rw [e]))

end Go.Proofs.Ytfmjcogcoclhpaa.PSumsExact
