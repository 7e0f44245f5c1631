/- FrameExact: what it computes is true. -/
import Derived.Test.YtcomabcmjhlabaaExact
import Derived.Test.YtcomabcmjhlabaaSayFrameExact
namespace Go.Proofs.Ytcomabcmjhlabaa.Pure
open Go.RowKit Go.Proofs.Ytcomabcmjhlabaa.FA Go.Proofs.YtcomabcmjhlabaaW.PrintWords Go.Proofs.YtcomabcmjhlabaaW.PrintLast Go.Proofs.Ytcomabcmjhlabaa.Crc Go.Proofs.Ytcomabcmjhlabaa.Nums
theorem exact_j1 (k : Nat) (hk : 2700 ≤ k) (b : List Int) (x11 : List Int) (K N O S : Int) (d : List Int) (q1 q2 q3 q4 : Int) (q5 : List Int) (hb : b.length < 2000) (hx : x11.length < 2000) (hd : d.length < 2000) (hq : q5.length < 2000) :
    wherrylaw20_FrameExact.j1 (k + 1) b b x11 false K N O S d K N O S d q1 q2 q3 q4 q5 = some true := by
  obtain ⟨r1, h1⟩ := over_some q5 (by omega) k (by omega)
  obtain ⟨r2, h2⟩ := over_some x11 (by omega) k (by omega)
  rw [wherrylaw20_FrameExact.j1, if_neg (by decide), h1, Option.bind_some, h2, Option.bind_some, keep_frame _ _ _ _ _ _ _ _ _ _ _ (by omega) (by omega), Option.bind_some, decide_eq_true ⟨rfl, rfl, rfl, rfl, rfl⟩, if_pos rfl, keep_bytes _ _ (by omega) _ (by omega), Option.bind_some, decide_eq_true rfl, if_pos rfl, wakes_eq _ (by omega)]
  rfl
theorem FrameExact : wherrylaw20_FrameExact.Pure := by
  intro K N O S l l1 a2 a3 _ _ _ _ _ hl _ hl1 _ _
  obtain ⟨d, rfl, hd_⟩ := bytes_ints l hl
  obtain ⟨b, rfl, hb⟩ := bytes_ints l1 hl1
  refine ⟨3000 + 3, ?_⟩
  unfold wherrylaw20_FrameExact.f
  rw [ints_length, ints_length]
  by_cases h1 : (d.length : Int) > 300
  · rw [if_pos h1, wherrylaw20_FrameExact.j0, if_pos rfl]
  rw [if_neg h1]
  by_cases h2 : (b.length : Int) > 300
  · rw [decide_eq_true h2, wherrylaw20_FrameExact.j0, if_pos rfl]
  have htf : wherrykeep_TwinFrame.f K N O S (ints d) = some (K, N, O, S, ints d) := by
    unfold wherrykeep_TwinFrame.f
    rw [twin_eq d (by omega)]; rfl
  have htb := twin_eq b (by omega)
  have hread := ref_read 3000 (by omega) b hb
  obtain ⟨ys, hs1, hs2, hs3⟩ := ref_spoil 3002 (by omega) a2 a3 b (by omega) hb
  have hcf := check_eq 3002 (by omega) K N O S (ints d)
  have hrf := ref_frame 3002 K N O S (ints d) (by rw [ints_length]; omega) (by rw [ints_length]; omega)
  rw [ints_length] at hcf hrf
  obtain ⟨q1, q2, q3, q4, q5, q6, hq, hq5⟩ : ∃ q1 q2 q3 q4 q5 q6, frame_Read.f (3000 + 2) (ints b) = some (q1, q2, q3, q4, q5, q6) ∧ q5.length < 2000 := by
    rcases read_any 3000 (by omega) b hb with ⟨e, he, h⟩ | ⟨K', N', O', S', d', hR', _, _, _, _, _, rfl, h⟩
    · exact ⟨_, _, _, _, _, _, h, by simp⟩
    · have : d'.length ≤ 48 := by unfold RF at hR'; omega
      exact ⟨_, _, _, _, _, _, h, by rw [ints_length]; omega⟩
  have hkf := keep_frame 3002 q1 q2 q3 q4 q1 q2 q3 q4 q5 q5 (by omega) (by omega)
  rw [decide_eq_true ⟨rfl, rfl, rfl, rfl, rfl⟩] at hkf
  have hkb := keep_bytes (ints ys) (ints ys) (by rw [ints_length]; omega) 3002 (by rw [ints_length]; omega)
  rw [decide_eq_true rfl] at hkb
  rw [decide_eq_false h2, wherrylaw20_FrameExact.j0, if_neg (by decide), htf, Option.bind_some, htb, Option.bind_some]
  simp only []
  by_cases hR : RF K N O S d.length
  · have hR2 := hR
    obtain ⟨K, N, O, S, rfl, rfl, rfl, rfl, hK, hN, hO, hS, hD⟩ := rf_nat hR
    have h48 : d.length ≤ 48 := by unfold RF at hR2; omega
    have hlen := enc_length K N O S d
    have hby := bytes_ok 3002 (by omega) K N O S d hd_ (by omega) hR2
    have hrb := ref_bytes 3002 (by omega) K N O S d hd_ (by omega)
    have hke := keep_bytes (ints (enc K N O S d)) (ints (enc K N O S d)) (by rw [ints_length]; omega) 3002 (by rw [ints_length]; omega)
    rw [decide_eq_true rfl] at hke
    rw [if_pos hR2] at hcf
    rw [decide_eq_true hR2] at hrf
    have hj := exact_j1 3001 (by omega) (ints b) (ints (enc K N O S d)) K N O S (ints d) q1 q2 q3 q4 q5 (by rw [ints_length]; omega) (by rw [ints_length]; omega) (by rw [ints_length]; omega) hq5
    rw [hby, Option.bind_some, hq, Option.bind_some, hread, hq, Option.bind_some, hrf, Option.bind_some, hcf, Option.bind_some]
    simp only []
    rw [if_neg (by decide), if_pos trivial, if_pos trivial, hrb, Option.bind_some, hke, Option.bind_some, if_pos rfl, if_pos trivial, hkf, Option.bind_some, if_pos rfl, hs1, Option.bind_some, hs2, Option.bind_some, hkb, Option.bind_some]
    exact hj
  · have hby := bytes_no 3002 (by omega) K N O S (ints d) (by rw [ints_length]; exact hR)
    rw [if_neg hR] at hcf
    rw [decide_eq_false hR] at hrf
    have hj := exact_j1 3001 (by omega) (ints b) [] K N O S (ints d) q1 q2 q3 q4 q5 (by rw [ints_length]; omega) (by simp) (by rw [ints_length]; omega) hq5
    rw [hby, Option.bind_some, hq, Option.bind_some, hread, hq, Option.bind_some, hrf, Option.bind_some, hcf, Option.bind_some]
    simp only []
    rw [if_neg (by decide), if_neg (by decide), if_pos trivial, if_neg (by simp), Option.bind_some, if_pos rfl, if_pos trivial, hkf, Option.bind_some, if_pos rfl, hs1, Option.bind_some, hs2, Option.bind_some, hkb, Option.bind_some]
    exact hj
end Go.Proofs.Ytcomabcmjhlabaa.Pure
