/- FrameCuts: what it computes is true. -/
import Derived.Test.YtcomabcmjhlabaaRead2
import Derived.Test.YtcomabcmjhlabaaSayFrameCuts
namespace Go.Proofs.Ytcomabcmjhlabaa.Pure
open Go.RowKit Go.Proofs.Ytcomabcmjhlabaa.FA Go.Proofs.YtcomabcmjhlabaaW.PrintWords Go.Proofs.YtcomabcmjhlabaaW.PrintLast Go.Proofs.Ytcomabcmjhlabaa.Crc Go.Proofs.Ytcomabcmjhlabaa.Nums
theorem cut_6 (K N O S : Nat) (d : List Nat) : (enc K N O S d).getD 6 0 = d.length % 256 := by
  unfold enc
  rw [getD_app _ _ _ (by simp [hd] <;> omega), getD_app _ _ _ (by simp [hd])]
  simp [hd]
/-- Bytes whose seventh tells another length are no frame's. -/
theorem not_read (k : Nat) (hk : 2700 ≤ k) (b : List Nat) (hb : ∀ c ∈ b, c < 256) (m : Nat) (h6 : 7 ≤ b.length → b.getD 6 0 = m) (hm : m < 256) (hl : b.length ≠ 9 + m) :
    ∃ r1 r2 r3 r4 r5 e, frame_Read.f (k + 2) (ints b) = some (r1, r2, r3, r4, r5, e) ∧ e ≠ 0 := by
  rcases read_any k hk b hb with ⟨e, he, h⟩ | ⟨K, N, O, S, d, hR, hd_, hK, hN, hO, hS, rfl, h⟩
  · exact ⟨_, _, _, _, _, e, h, by omega⟩
  · exfalso
    have hlen := enc_length K N O S d
    have h48 : d.length ≤ 48 := by unfold RF at hR; omega
    have := h6 (by omega)
    rw [cut_6] at this
    omega
theorem FrameCuts : wherrylaw20_FrameCuts.Pure := by
  intro K N O S l a1 a2 _ _ _ _ _ hl w1 w2
  obtain ⟨d, rfl, hd_⟩ := bytes_ints l hl
  have wb := wf_u8 w2
  refine ⟨3000 + 3, ?_⟩
  unfold wherrylaw20_FrameCuts.f
  rw [ints_length]
  by_cases h300 : (d.length : Int) > 300
  · rw [if_pos h300]
  rw [if_neg h300]
  by_cases hR : RF K N O S d.length
  · have hR2 := hR
    obtain ⟨K, N, O, S, rfl, rfl, rfl, rfl, hK, hN, hO, hS, hD⟩ := rf_nat hR
    have h48 : d.length ≤ 48 := by unfold RF at hR2; omega
    have hlen := enc_length K N O S d
    have hb := enc_bytes K N O S d hd_
    have a6 := cut_6 K N O S d
    rw [bytes_ok _ (by omega) K N O S d hd_ (by omega) hR2, Option.bind_some]
    simp only []
    have hl' : (ints (enc K N O S d)).length = 9 + d.length := by rw [ints_length, hlen]
    rw [if_pos trivial, show (((ints (enc K N O S d)).length : Int) == 0) = false by rw [hl']; simp; omega, wherrylaw20_FrameCuts.j0, if_neg (by decide), hl', wraps_u64 ((9 + d.length : Nat) : Int) (by omega) (by omega), if_neg (by omega)]
    have hu : 0 ≤ IntKind.u64.wrap a1 := by rw [wrap_u64]; omega
    have e : wrap64 (Int.tmod (IntKind.u64.wrap a1) ((9 + d.length : Nat) : Int)) = ((((IntKind.u64.wrap a1) % ((9 + d.length : Nat) : Int)).toNat : Nat) : Int) ∧ ((IntKind.u64.wrap a1) % ((9 + d.length : Nat) : Int)).toNat < 9 + d.length := by
      have h1 := Int.emod_nonneg (IntKind.u64.wrap a1) (show ((9 + d.length : Nat) : Int) ≠ 0 by omega)
      have h2 := Int.emod_lt_of_pos (IntKind.u64.wrap a1) (show (0 : Int) < ((9 + d.length : Nat) : Int) by omega)
      rw [Int.tmod_eq_emod_of_nonneg hu, wraps64 _ (by omega) (by omega)]
      omega
    obtain ⟨e1, e2⟩ := e
    generalize ((IntKind.u64.wrap a1) % ((9 + d.length : Nat) : Int)).toNat = m at e1 e2
    rw [e1, if_pos (by omega), if_pos (by omega), Int.toNat_natCast, ints_take]
    obtain ⟨r1, r2, r3, r4, r5, x, h1, hx⟩ := not_read 3000 (by omega) ((enc K N O S d).take m) (fun c hc => hb c (List.mem_of_mem_take hc)) d.length (fun h => by
      rw [List.length_take] at h
      rw [List.getD_eq_getElem?_getD, List.getElem?_take, if_pos (by omega), ← List.getD_eq_getElem?_getD, a6]
      omega) (by omega) (by rw [List.length_take]; omega)
    obtain ⟨b2, rfl⟩ : ∃ b2 : Nat, a2 = b2 := ⟨a2.toNat, by omega⟩
    obtain ⟨s1, s2, s3, s4, s5, y, g1, hy⟩ := not_read 3000 (by omega) (enc K N O S d ++ [b2]) (fun c hc => by
      rcases List.mem_append.1 hc with hc | hc
      · exact hb c hc
      · rw [List.mem_singleton.1 hc]; omega) d.length (fun _ => by rw [getD_app _ _ _ (by omega), a6]; omega) (by omega) (by rw [List.length_append, hlen]; simp)
    rw [h1, Option.bind_some, twin_eq _ (by omega), Option.bind_some, if_pos (by omega), show ints (enc K N O S d) ++ [(b2 : Int)] = ints (enc K N O S d ++ [b2]) by simp [ints], g1, Option.bind_some]
    simp only []
    rw [if_neg hx, if_neg hy, wakes_eq _ (by omega)]
    rfl
  · rw [bytes_no _ (by omega) K N O S (ints d) (by rw [ints_length]; exact hR), Option.bind_some]
    simp only []
    rw [if_neg (by decide), wherrylaw20_FrameCuts.j0, if_pos rfl, if_neg (by decide), wakes_eq _ (by omega)]
    rfl
end Go.Proofs.Ytcomabcmjhlabaa.Pure
