/- A frame that is spoilt, wherever, by whatever, is told to be spoilt; spoilt again at that place by the same it is what it was: for every frame, every place, every pattern. -/
import Derived.Test.YtcomabcmjhlabaaSayFrameSpoilt
import Derived.Test.YtcomabcmjhlabaaRead
namespace Go.Proofs.Ytcomabcmjhlabaa.Pure
open Go.RowKit Go.Proofs.Ytcomabcmjhlabaa.FA Go.Proofs.YtcomabcmjhlabaaW.PrintWords Go.Proofs.YtcomabcmjhlabaaW.PrintLast Go.Proofs.Ytcomabcmjhlabaa.Crc Go.Proofs.Ytcomabcmjhlabaa.Nums

theorem FrameSpoilt : wherrylaw20_FrameSpoilt.Pure := by
  intro K N O S l a1 a2 _ _ _ _ _ hl _ _
  obtain ⟨d, rfl, hd_⟩ := bytes_ints l hl
  refine ⟨3000 + 1, ?_⟩
  unfold wherrylaw20_FrameSpoilt.f
  rw [ints_length]
  by_cases h300 : (d.length : Int) > 300
  · rw [if_pos h300]
  rw [if_neg h300]
  by_cases hR : RF K N O S d.length
  · have hR2 := hR
    obtain ⟨K, N, O, S, rfl, rfl, rfl, rfl, hK, hN, hO, hS, hD⟩ := rf_nat hR
    have h48 : d.length ≤ 48 := by unfold RF at hR2; omega
    have hb := enc_bytes K N O S d hd_
    have hlen := enc_length K N O S d
    obtain ⟨ys, h1, h2, h3, h4, h5⟩ := spoil_twice (3000 + 1) (by omega) a1 a2 (enc K N O S d) (by omega) (by omega) hb
    rw [bytes_ok _ (by omega) K N O S d hd_ (by omega) hR2, Option.bind_some, if_pos rfl]
    simp only
    rw [h1, Option.bind_some]
    have hs : sh (ys.take (ys.length - 2)) ≠ tl ys := by
      intro h
      exact h5 ((sum_row ys h2 (by omega) h).trans (enc_sum K N O S d hd_).symm)
    rw [read_sum 3000 (by omega) ys h2 (by omega) (by omega) hs, Option.bind_some]
    simp only [if_true]
    rw [keep_frame _ _ _ _ _ _ _ _ _ _ _ (by simp) (by simp), Option.bind_some, decide_eq_true ⟨rfl, rfl, rfl, rfl, rfl⟩, if_pos rfl, ints_length, ints_length, if_pos (by omega), keep_bytes _ _ (by rw [ints_length]; omega) _ (by rw [ints_length]; omega), Option.bind_some]
    have hne : ints ys ≠ ints (enc K N O S d) := by
      intro h
      exact h5 (by rw [ints_inj h])
    rw [decide_eq_false hne, if_neg (by simp), h4, Option.bind_some, keep_bytes _ _ (by rw [ints_length]; omega) _ (by rw [ints_length]; omega), Option.bind_some, decide_eq_true rfl, if_pos rfl, wakes_eq _ (by omega)]
    rfl
  · rw [bytes_no _ (by omega) K N O S (ints d) (by rw [ints_length]; exact hR), Option.bind_some]
    simp only
    rw [if_neg (by decide), wakes_eq _ (by omega)]
    rfl

end Go.Proofs.Ytcomabcmjhlabaa.Pure
