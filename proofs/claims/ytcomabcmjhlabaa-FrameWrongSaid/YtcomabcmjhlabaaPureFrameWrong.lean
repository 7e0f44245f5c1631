/- A right frame with what its kind does not name, a number beyond, a kind that there is not, is none: for every right frame, in each of the ways. -/
import Derived.Test.YtcomabcmjhlabaaSayFrameWrong
import Derived.Test.YtcomabcmjhlabaaRead
namespace Go.Proofs.Ytcomabcmjhlabaa.Pure
open Go.RowKit Go.Proofs.Ytcomabcmjhlabaa.FA Go.Proofs.YtcomabcmjhlabaaW.PrintWords Go.Proofs.YtcomabcmjhlabaaW.PrintLast Go.Proofs.Ytcomabcmjhlabaa.Crc Go.Proofs.Ytcomabcmjhlabaa.Nums

theorem wrong_j1 (k : Nat) (hk : 2700 ≤ k) (K N O S : Int) (l : List Int) (K2 N2 O2 S2 : Int) (l2 : List Int) (h : RF K N O S l.length) (h2 : ¬ RF K2 N2 O2 S2 l2.length) :
    wherrylaw20_FrameWrong.j1 (k + 1) K N O S l K2 N2 O2 S2 l2 = some true := by
  simp only [wherrylaw20_FrameWrong.j1]
  rw [bytes_no k (by omega) _ _ _ _ _ h2, Option.bind_some, check_eq k (by omega), if_pos h, Option.bind_some, if_pos rfl, check_eq k (by omega), if_neg h2, Option.bind_some, if_pos rfl]
  simp only
  rw [if_pos trivial, if_pos (by decide), wakes_eq _ hk]
  rfl
theorem FrameWrong : wherrylaw20_FrameWrong.Pure := by
  intro K N O S l a1 _ _ _ _ _ _ _
  refine ⟨2999 + 1 + 1, ?_⟩
  unfold wherrylaw20_FrameWrong.f
  by_cases h300 : (l.length : Int) > 300
  · rw [if_pos h300]
    simp only [wherrylaw20_FrameWrong.j0]
    rw [if_pos trivial]
  rw [if_neg h300, ref_frame _ K N O S l (by omega) (by omega), Option.bind_some]
  by_cases hR : RF K N O S l.length
  · rw [decide_eq_true hR]
    simp only [wherrylaw20_FrameWrong.j0]
    have hu : 0 ≤ IntKind.u64.wrap a1 ∧ IntKind.u64.wrap a1 < 18446744073709551616 := by rw [wrap_u64]; omega
    have ht : wherrykeep_TwinFrame.f K N O S l = some (K, N, O, S, l) := by
      unfold wherrykeep_TwinFrame.f wherrykeep_Twin.f
      rw [if_pos (by rw [List.length_nil, Nat.zero_add]; omega), Option.bind_some, List.nil_append]
    rw [if_neg (by simp), ht, Option.bind_some, Int.tmod_eq_emod_of_nonneg hu.1]
    generalize IntKind.u64.wrap a1 % 6 = q
    simp only
    have hR2 := hR
    unfold RF at hR2
    by_cases h0 : q = 0
    · rw [if_pos h0]; exact wrong_j1 _ (by omega) _ _ _ _ _ _ _ _ _ _ hR (by unfold RF; omega)
    rw [if_neg h0]
    by_cases h1 : q = 1
    · rw [if_pos h1]; exact wrong_j1 _ (by omega) _ _ _ _ _ _ _ _ _ _ hR (by unfold RF; omega)
    rw [if_neg h1]
    by_cases h2 : q = 2
    · rw [if_pos h2]; exact wrong_j1 _ (by omega) _ _ _ _ _ _ _ _ _ _ hR (by unfold RF; omega)
    rw [if_neg h2]
    by_cases h3 : q = 3
    · rw [if_pos h3]
      by_cases k3 : K = 3
      · rw [if_pos k3]; exact wrong_j1 _ (by omega) _ _ _ _ _ _ _ _ _ _ hR (by unfold RF; omega)
      rw [if_neg k3]
      by_cases k4 : K = 4
      · rw [if_pos k4]; exact wrong_j1 _ (by omega) _ _ _ _ _ _ _ _ _ _ hR (by unfold RF; omega)
      rw [if_neg k4]; exact wrong_j1 _ (by omega) _ _ _ _ _ _ _ _ _ _ hR (by unfold RF; omega)
    rw [if_neg h3]
    by_cases h4 : q = 4
    · rw [if_pos h4]
      by_cases k3 : K = 3
      · rw [if_pos k3]; exact wrong_j1 _ (by omega) _ _ _ _ _ _ _ _ _ _ hR (by unfold RF; simp only [List.length_nil]; omega)
      rw [if_neg k3]; exact wrong_j1 _ (by omega) _ _ _ _ _ _ _ _ _ _ hR (by unfold RF; simp only [List.length_cons, List.length_nil]; omega)
    rw [if_neg h4]
    by_cases k4 : K = 4
    · rw [if_pos k4]; exact wrong_j1 _ (by omega) _ _ _ _ _ _ _ _ _ _ hR (by unfold RF; omega)
    rw [if_neg k4]
    by_cases k5 : K = 5
    · rw [if_pos k5]; exact wrong_j1 _ (by omega) _ _ _ _ _ _ _ _ _ _ hR (by unfold RF; omega)
    rw [if_neg k5]; exact wrong_j1 _ (by omega) _ _ _ _ _ _ _ _ _ _ hR (by unfold RF; omega)
  · rw [decide_eq_false hR]
    simp only [wherrylaw20_FrameWrong.j0]
    rw [if_pos (by decide)]

end Go.Proofs.Ytcomabcmjhlabaa.Pure
