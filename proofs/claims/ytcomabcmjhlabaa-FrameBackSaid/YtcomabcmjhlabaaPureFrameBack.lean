/- FrameBack: what it computes is true. -/
import Derived.Test.YtcomabcmjhlabaaRead2
import Derived.Test.YtcomabcmjhlabaaSayFrameBack
namespace Go.Proofs.Ytcomabcmjhlabaa.Pure
open Go.RowKit Go.Proofs.Ytcomabcmjhlabaa.FA Go.Proofs.YtcomabcmjhlabaaW.PrintWords Go.Proofs.YtcomabcmjhlabaaW.PrintLast Go.Proofs.Ytcomabcmjhlabaa.Crc Go.Proofs.Ytcomabcmjhlabaa.Nums
theorem back_j1 (k : Nat) (hk : 2700 ≤ k) (b : List Nat) (hb : ∀ c ∈ b, c < 256) (hl : b.length ≤ 300) : wherrylaw20_FrameBack.j1 (k + 3) (ints b) = some true := by
  rw [wherrylaw20_FrameBack.j1]
  rcases read_any k hk b hb with ⟨e, he, h⟩ | ⟨K, N, O, S, d, hR, hd_, hK, hN, hO, hS, rfl, h⟩
  · rw [h, Option.bind_some]
    simp only []
    have kf : wherrykeep_Frame.f (k + 2) 0 0 0 0 [] 0 0 0 0 [] = some true := by
      rw [keep_frame _ _ _ _ _ _ _ _ _ _ _ (by simp) (by simp)]; rfl
    rcases he with rfl | rfl
    · rw [if_neg (by decide), if_pos rfl, kf, Option.bind_some, if_pos rfl, wakes_eq _ (by omega)]; rfl
    · rw [if_neg (by decide), if_neg (by decide), if_pos rfl, kf, Option.bind_some, if_pos rfl, wakes_eq _ (by omega)]; rfl
  · rw [h, Option.bind_some]
    simp only []
    have h48 : d.length ≤ 48 := by unfold RF at hR; omega
    rw [if_pos trivial, bytes_ok (k + 2) (by omega) K N O S d hd_ (by omega) hR, Option.bind_some]
    simp only []
    rw [if_pos trivial, keep_bytes _ _ (by rw [ints_length]; omega) _ (by rw [ints_length]; omega), Option.bind_some, decide_eq_true rfl, if_pos rfl, wakes_eq _ (by omega)]
    rfl
theorem FrameBack : wherrylaw20_FrameBack.Pure := by
  intro K N O S l K2 N2 O2 S2 l2 l3 _ _ _ _ _ hl _ _ _ _ _ hl2 _ hl3
  obtain ⟨d, rfl, hd_⟩ := bytes_ints l hl
  obtain ⟨d2, rfl, hd2⟩ := bytes_ints l2 hl2
  obtain ⟨b, rfl, hb⟩ := bytes_ints l3 hl3
  refine ⟨3000 + 4, ?_⟩
  unfold wherrylaw20_FrameBack.f
  rw [ints_length, ints_length, ints_length]
  by_cases h1 : (d.length : Int) > 300
  · rw [if_pos h1, wherrylaw20_FrameBack.j0, if_pos rfl]
  rw [if_neg h1]
  by_cases h2 : (d2.length : Int) > 300
  · rw [if_pos h2, wherrylaw20_FrameBack.j0, if_pos rfl]
  rw [if_neg h2]
  by_cases h3 : (b.length : Int) > 300
  · rw [decide_eq_true h3, wherrylaw20_FrameBack.j0, if_pos rfl]
  rw [decide_eq_false h3, wherrylaw20_FrameBack.j0, if_neg (by decide)]
  have hj := back_j1 3000 (by omega) b hb (by omega)
  by_cases hR : RF K N O S d.length
  · have hR' := hR
    obtain ⟨K, N, O, S, rfl, rfl, rfl, rfl, hK, hN, hO, hS, hD⟩ := rf_nat hR
    have h48 : d.length ≤ 48 := by unfold RF at hR'; omega
    rw [bytes_ok (3000 + 3) (by omega) K N O S d hd_ (by omega) hR', Option.bind_some]
    have hread := read_enc (3000 + 1) (by omega) K N O S d hd_ hK hN hO hS hR'
    have hkf := keep_frame (3000 + 3) K N O S K N O S (ints d) (ints d) (by rw [ints_length]; omega) (by rw [ints_length]; omega)
    rw [decide_eq_true ⟨rfl, rfl, rfl, rfl, rfl⟩] at hkf
    have hlen := enc_length K N O S d
    by_cases hR2 : RF K2 N2 O2 S2 d2.length
    · have hR2' := hR2
      obtain ⟨K2, N2, O2, S2, rfl, rfl, rfl, rfl, hK2, hN2, hO2, hS2, hD2⟩ := rf_nat hR2
      have h482 : d2.length ≤ 48 := by unfold RF at hR2'; omega
      rw [bytes_ok (3000 + 3) (by omega) K2 N2 O2 S2 d2 hd2 (by omega) hR2', Option.bind_some]
      simp only []
      rw [if_pos trivial, hread, Option.bind_some]
      simp only []
      rw [if_pos trivial, hkf, Option.bind_some, if_pos rfl, if_pos trivial, keep_bytes _ _ (by rw [ints_length]; omega) _ (by rw [ints_length]; omega), Option.bind_some,
        keep_frame _ _ _ _ _ _ _ _ _ _ _ (by rw [ints_length]; omega) (by rw [ints_length]; omega), Option.bind_some]
      have key : (ints (enc K N O S d) = ints (enc K2 N2 O2 S2 d2)) ↔ ((K : Int) = K2 ∧ (N : Int) = N2 ∧ (O : Int) = O2 ∧ (S : Int) = S2 ∧ ints d = ints d2) := by
        constructor
        · intro h
          have e := ints_inj h
          obtain ⟨a0, a1, a2, a3, a4, _⟩ := enc_at K N O S d hd_ hK hN hO hS
          obtain ⟨c0, c1, c2, c3, c4, _⟩ := enc_at K2 N2 O2 S2 d2 hd2 hK2 hN2 hO2 hS2
          rw [e] at a0 a1 a2 a3 a4
          exact ⟨by omega, by omega, by omega, by omega, by rw [← a4, c4]⟩
        · rintro ⟨h1, h2, h3, h4, h5⟩
          obtain rfl : K = K2 := by omega
          obtain rfl : N = N2 := by omega
          obtain rfl : O = O2 := by omega
          obtain rfl : S = S2 := by omega
          rw [ints_inj h5]
      rw [decide_eq_decide.2 key, bne_self_eq_false, if_neg (by decide), hj]
    · rw [bytes_no (3000 + 3) (by omega) K2 N2 O2 S2 (ints d2) (by rw [ints_length]; exact hR2), Option.bind_some]
      simp only []
      rw [if_pos trivial, hread, Option.bind_some]
      simp only []
      rw [if_pos trivial, hkf, Option.bind_some, if_pos rfl, if_neg (by decide), hj]
  · rw [bytes_no (3000 + 3) (by omega) K N O S (ints d) (by rw [ints_length]; exact hR), Option.bind_some]
    have any2 : ∃ x, frame_Bytes.f (3000 + 3) K2 N2 O2 S2 (ints d2) = some x := by
      by_cases hR2 : RF K2 N2 O2 S2 d2.length
      · have hR2' := hR2
        obtain ⟨K2, N2, O2, S2, rfl, rfl, rfl, rfl, hK2, hN2, hO2, hS2, hD2⟩ := rf_nat hR2
        exact ⟨_, bytes_ok (3000 + 3) (by omega) K2 N2 O2 S2 d2 hd2 (by omega) hR2'⟩
      · exact ⟨_, bytes_no (3000 + 3) (by omega) K2 N2 O2 S2 (ints d2) (by rw [ints_length]; exact hR2)⟩
    obtain ⟨x, hx⟩ := any2
    rw [hx, Option.bind_some]
    simp only []
    rw [if_neg (by decide), hj]
end Go.Proofs.Ytcomabcmjhlabaa.Pure
