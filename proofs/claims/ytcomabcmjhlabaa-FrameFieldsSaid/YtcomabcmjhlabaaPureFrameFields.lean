/- FrameFields: what it computes is true. -/
import Derived.Test.YtcomabcmjhlabaaRead2
import Derived.Test.YtcomabcmjhlabaaSayFrameFields
namespace Go.Proofs.Ytcomabcmjhlabaa.Pure
open Go.RowKit Go.Proofs.Ytcomabcmjhlabaa.FA Go.Proofs.YtcomabcmjhlabaaW.PrintWords Go.Proofs.YtcomabcmjhlabaaW.PrintLast Go.Proofs.Ytcomabcmjhlabaa.Crc Go.Proofs.Ytcomabcmjhlabaa.Nums
theorem enc_6 (K N O S : Nat) (d : List Nat) : (enc K N O S d).getD 6 0 = d.length % 256 := by
  unfold enc
  rw [getD_app _ _ _ (by simp [hd] <;> omega), getD_app _ _ _ (by simp [hd])]
  simp [hd]
theorem fields_j1 (k : Nat) (hk : 2700 ≤ k) (e d : List Nat) (K N O S : Nat) (hl : e.length = 9 + d.length) (hb : ∀ c ∈ e, c < 256) (h48 : d.length ≤ 48) (hK : K < 256) (hS : S < 256) (A0 : Aside0 (e.getD 0 0 = K)) (A1 : Aside0 (num e = N)) (A2 : Aside0 (off e = O)) (A3 : Aside0 (e.getD 5 0 = S)) (A6 : Aside0 (e.getD 6 0 = d.length)) (ED : Aside0 ((e.take (7 + d.length)).drop 7 = d)) :
    wherrylaw20_FrameFields.j1 (k + 1) (ints e) false K N O S (ints d) = some true := by
  have e7 : wrap64 (7 + ((ints d).length : Int)) = ((7 + d.length : Nat) : Int) := by rw [ints_length, wraps64 _ (by omega) (by omega)]; omega
  have hl' : (ints e).length = 9 + d.length := by rw [ints_length, hl]
  have r0 : rd (ints e) 0 = ((e.getD 0 0 : Nat) : Int) := rd_get _ 0 (by omega)
  have r1 : rd (ints e) 1 = ((e.getD 1 0 : Nat) : Int) := rd_get _ 1 (by omega)
  have r2 : rd (ints e) 2 = ((e.getD 2 0 : Nat) : Int) := rd_get _ 2 (by omega)
  have r3 : rd (ints e) 3 = ((e.getD 3 0 : Nat) : Int) := rd_get _ 3 (by omega)
  have r4 : rd (ints e) 4 = ((e.getD 4 0 : Nat) : Int) := rd_get _ 4 (by omega)
  have r5 : rd (ints e) 5 = ((e.getD 5 0 : Nat) : Int) := rd_get _ 5 (by omega)
  have r6 : rd (ints e) 6 = ((e.getD 6 0 : Nat) : Int) := rd_get _ 6 (by omega)
  have h9 : 9 ≤ e.length := by omega
  have hk0 : wrap64 ((K : Nat) : Int) = K := wraps64 _ (by omega) (by omega)
  have hs0 : wrap64 ((S : Nat) : Int) = S := wraps64 _ (by omega) (by omega)
  have hd0 : wrap64 ((d.length : Nat) : Int) = d.length := wraps64 _ (by omega) (by omega)
  have l1 := get_lt _ hb 1 (Nat.lt_of_lt_of_le (by decide) h9)
  have l2 := get_lt _ hb 2 (Nat.lt_of_lt_of_le (by decide) h9)
  have l3 := get_lt _ hb 3 (Nat.lt_of_lt_of_le (by decide) h9)
  have l4 := get_lt _ hb 4 (Nat.lt_of_lt_of_le (by decide) h9)
  have hn : Go.bits .or .i64 (wrap64 (wrap64 ((e.getD 1 0 : Nat) : Int) * 256)) (wrap64 ((e.getD 2 0 : Nat) : Int)) = (N : Int) := by rw [or_num _ _ l1 l2, ← A1.out]; rfl
  have ho : Go.bits .or .i64 (wrap64 (wrap64 ((e.getD 3 0 : Nat) : Int) * 256)) (wrap64 ((e.getD 4 0 : Nat) : Int)) = (O : Int) := by rw [or_num _ _ l3 l4, ← A2.out]; rfl
  clear l1 l2 l3 l4
  have hdl : (ints d).length = d.length := ints_length d
  rw [wherrylaw20_FrameFields.j1, if_neg (by decide), e7, r0, r1, r2, r3, r4, r5, r6, hn, ho, A0.out, A3.out, A6.out, hk0, hs0, hd0, hl', hdl]
  clear e7 r0 r1 r2 r3 r4 r5 r6 hn ho hk0 hs0 hd0
  rw [if_pos (by omega), if_pos rfl, if_pos (by omega), if_pos (by omega), if_pos rfl, if_pos (by omega), if_pos (by omega), if_pos rfl, if_pos (by omega), if_pos rfl, if_pos (by omega), if_pos rfl, if_pos (by omega), if_pos (by omega), Int.toNat_natCast, ints_take, ints_drop, ED.out,
    keep_bytes _ _ (by rw [ints_length]; omega) _ (by rw [ints_length]; omega), Option.bind_some, decide_eq_true rfl, if_pos rfl, wakes_eq _ (by omega)]
  rfl
theorem FrameFields : wherrylaw20_FrameFields.Pure := by
  intro K N O S l _ _ _ _ _ hl
  obtain ⟨d, rfl, hd_⟩ := bytes_ints l hl
  refine ⟨3000 + 2, ?_⟩
  unfold wherrylaw20_FrameFields.f
  rw [ints_length]
  by_cases h300 : (d.length : Int) > 300
  · rw [if_pos h300, wherrylaw20_FrameFields.j0, if_pos rfl]
  rw [if_neg h300, ref_frame _ _ _ _ _ _ (by rw [ints_length]; omega) (by rw [ints_length]; omega), Option.bind_some, ints_length, wherrylaw20_FrameFields.j0]
  by_cases hR : RF K N O S d.length
  · have hR2 := hR
    obtain ⟨K, N, O, S, rfl, rfl, rfl, rfl, hK, hN, hO, hS, hD⟩ := rf_nat hR
    have h48 : d.length ≤ 48 := by unfold RF at hR2; omega
    have hlen := enc_length K N O S d
    obtain ⟨a0, a1, a2, a3, a4, _⟩ := enc_at K N O S d hd_ hK hN hO hS
    have a6 := enc_6 K N O S d
    have hb := enc_bytes K N O S d hd_
    rw [decide_eq_true hR2, if_neg (by decide), bytes_ok _ (by omega) K N O S d hd_ (by omega) hR2, Option.bind_some]
    have hx : (((ints (enc K N O S d)).length : Int) != (wrap64 (9 + ((ints d).length : Int)))) = false := by
      rw [ints_length, ints_length, hlen, wraps64 _ (by omega) (by omega), show (((9 + d.length : Nat)) : Int) = 9 + (d.length : Int) by omega, bne_self_eq_false]
    have ed : ((enc K N O S d).take (7 + d.length)).drop 7 = d := by
      unfold dat at a4
      rw [hlen, show 9 + d.length - 2 = 7 + d.length by omega] at a4
      exact a4
    have := fields_j1 3000 (by omega) (enc K N O S d) d K N O S hlen hb h48 hK hS ⟨a0⟩ ⟨a1⟩ ⟨a2⟩ ⟨a3⟩ ⟨by rw [a6]; omega⟩ ⟨ed⟩
    show (if (0 : Int) = 0 then _ else _) = _
    rw [if_pos rfl]
    show wherrylaw20_FrameFields.j1 (3000 + 1) (ints (enc K N O S d)) (((ints (enc K N O S d)).length : Int) != (wrap64 (9 + ((ints d).length : Int)))) K N O S (ints d) = _
    rw [hx]
    exact this
  · rw [decide_eq_false hR]
    rfl
end Go.Proofs.Ytcomabcmjhlabaa.Pure
