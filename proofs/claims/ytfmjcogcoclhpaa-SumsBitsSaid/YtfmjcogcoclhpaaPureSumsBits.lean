/- The sum of width 1 by the divisor 1 tells whether a text's ones, and one more, are an odd number: for every text of bytes (the statement's own bound: up to 600 bytes). -/
import Derived.Test.YtfmjcogcoclhpaaCarrySumsBits
namespace Go.Proofs.Ytfmjcogcoclhpaa.Pure
open Go.RowKit Go.Proofs.Ytfmjcogcoclhpaa.PSumsBits Go.Proofs.YtfmjcogcoclhpaaW.PrintWords Go.Proofs.YtfmjcogcoclhpaaW.PrintLast Go.Proofs.Ytfmjcogcoclhpaa.Crc Go.Proofs.Ytfmjcogcoclhpaa.Nums

/-- The ones of a byte's first i bits. -/
def pop (c : Nat) : Nat → Nat
  | 0 => 0
  | i + 1 => pop c i + c / 2 ^ i % 2
theorem pop_le (c i : Nat) : pop c i ≤ i := by
  induction i with
  | zero => exact Nat.le_refl _
  | succ i ih => simp only [pop]; omega
def pops : List Nat → Nat
  | [] => 0
  | c :: cs => pop c 8 + pops cs
theorem pops_le (bs : List Nat) : pops bs ≤ 8 * bs.length := by
  induction bs with
  | nil => exact Nat.le_refl _
  | cons c cs ih => have := pop_le c 8; simp only [pops, List.length_cons]; omega
theorem dn1 (r b : Nat) (hr : r < 2) (hb : b < 2) : dn 1 (r ^^^ b) = (r + b) % 2 := by
  have h1 : r = 0 ∨ r = 1 := by omega
  have h2 : b = 0 ∨ b = 1 := by omega
  rcases h1 with rfl | rfl <;> rcases h2 with rfl | rfl <;> decide
theorem bits8_pop (r c : Nat) (hr : r < 2) : ∀ i, bits8 1 r c i = (r + pop c i) % 2 := by
  intro i
  induction i with
  | zero => simp only [bits8, pop]; omega
  | succ i ih =>
    simp only [bits8, pop]
    rw [ih, dn1 _ _ (by omega) (by omega)]
    omega
theorem crcb_pop (bs : List Nat) : ∀ r, r < 2 → crcb 1 r bs = (r + pops bs) % 2 := by
  induction bs with
  | nil => intro r hr; show r = _; simp only [pops]; omega
  | cons c cs ih =>
    intro r hr
    show crcb 1 (bits8 1 r c 8) cs = _
    rw [bits8_pop r c hr, ih _ (by omega)]
    simp only [pops]
    omega
theorem bits_l1 (bs : List Nat) (i : Nat) (hi : i < bs.length) (hc : bs[i] < 256) (hn : bs.length < 2 ^ 32) (n : Nat) (hnn : n < 2 ^ 40) (k : Nat) : ∀ j, j ≤ 8 →
    wherrylaw08_SumsBits.l1 (k + j + 1) (ints bs) ((n + pop bs[i] (8 - j) : Nat) : Int) i ((8 - j : Nat) : Int) = wherrylaw08_SumsBits.l0 k (ints bs) ((n + pop bs[i] 8 : Nat) : Int) ((i + 1 : Nat) : Int) := by
  intro j
  induction j with
  | zero =>
    intro _
    simp only [wherrylaw08_SumsBits.l1]
    rw [if_neg (by omega), wraps64 _ (by omega) (by omega)]
    rfl
  | succ j ih =>
    intro hj
    obtain ⟨m, hm⟩ : ∃ m, k + j + 1 = m := ⟨_, rfl⟩
    rw [show k + (j + 1) + 1 = m + 1 by omega]
    simp only [wherrylaw08_SumsBits.l1]
    have hp := pop_le bs[i] (8 - (j + 1))
    rw [if_pos (by omega), if_pos (by omega), ints_length, if_pos (by omega), wraps_u64 _ (by omega) (by omega), if_pos (by omega), rd_ints bs i hi, bit_u8 _ _ hc (by omega)]
    rw [wraps64 (((bs[i] / 2 ^ (8 - (j + 1)) % 2 : Nat)) : Int) (by omega) (by omega), wraps64 _ (by omega) (by omega), wraps64 _ (by omega) (by omega)]
    have e : ((8 - (j + 1) : Nat) : Int) + 1 = ((8 - j : Nat) : Int) := by omega
    have e2 : ((n + pop bs[i] (8 - (j + 1)) : Nat) : Int) + ((bs[i] / 2 ^ (8 - (j + 1)) % 2 : Nat) : Int) = ((n + pop bs[i] (8 - j) : Nat) : Int) := by
      rw [show 8 - j = (8 - (j + 1)) + 1 by omega]
      simp only [pop]
      omega
    rw [e, e2, ← hm, ih (by omega)]
theorem bits_l0 (bs : List Nat) (hb : ∀ c ∈ bs, c < 256) (hn : bs.length ≤ 600) : ∀ (j k i n : Nat), i ≤ bs.length → bs.length - i = j → 10 * j + 6100 < k → n ≤ 8 * i → n + pops (bs.drop i) = pops bs →
    wherrylaw08_SumsBits.l0 k (ints bs) n i = some true := by
  intro j
  induction j with
  | zero =>
    intro k i n hi hj hk hni hs
    obtain ⟨k, rfl⟩ : ∃ m, k = m + 1 := ⟨k - 1, by omega⟩
    simp only [wherrylaw08_SumsBits.l0]
    rw [List.drop_of_length_le (by omega)] at hs
    have hs' : n = pops bs := by simpa [pops] using hs
    have h := carry_eq 1 1 (by decide) (by decide) (by decide) bs hb (by omega) k (by omega)
    rw [show ((1 : Nat) : Int) = 1 from rfl] at h
    rw [ints_length, if_neg (by omega), h, Option.bind_some]
    have hp := crcb_pop bs 1 (by decide)
    rw [crcb_eq 1 bs hb] at hp
    have e : crc 1 (2 ^ 1 - 1) bs ^^^ (2 ^ 1 - 1) = n % 2 := by
      rw [show 2 ^ 1 - 1 = 1 from rfl, hp, ← hs']
      rcases (by omega : n % 2 = 0 ∨ n % 2 = 1) with h2 | h2
      · rw [h2, show (1 + n) % 2 = 1 by omega]; decide
      · rw [h2, show (1 + n) % 2 = 0 by omega]; decide
    rw [if_pos (by rw [e]; show ((n % 2 : Nat) : Int) = Int.tmod (n : Int) 2; rw [Int.tmod_eq_emod_of_nonneg (by omega)]; omega), wakes_eq _ (by omega)]
    rfl
  | succ j ih =>
    intro k i n hi hj hk hni hs
    obtain ⟨k, rfl⟩ : ∃ m, k = m + 8 + 1 + 1 := ⟨k - 10, by omega⟩
    obtain ⟨m, hm⟩ : ∃ m, k + 8 + 1 = m := ⟨_, rfl⟩
    rw [hm]
    have hlt : i < bs.length := by omega
    simp only [wherrylaw08_SumsBits.l0]
    rw [ints_length, if_pos (by omega), ← hm]
    have h := bits_l1 bs i hlt (hb _ (List.getElem_mem hlt)) (by omega) n (by omega) k 8 (by omega)
    rw [show ((8 - 8 : Nat) : Int) = 0 from rfl, show pop bs[i] (8 - 8) = 0 from rfl, Nat.add_zero] at h
    rw [List.drop_eq_getElem_cons hlt] at hs
    simp only [pops] at hs
    have hp := pop_le bs[i] 8
    exact h.trans (ih k (i + 1) _ (by omega) (by omega) (by omega) (by omega) (by omega))
theorem SumsBits : wherrylaw08_SumsBits.Pure := by
  intro l0 _ _ hb0
  obtain ⟨a, rfl, ha⟩ := bytes_ints l0 hb0
  refine ⟨12200, ?_⟩
  unfold wherrylaw08_SumsBits.f
  rw [ints_length]
  by_cases h0 : (a.length : Int) > 600
  · rw [if_pos h0]
  rw [if_neg h0]
  exact bits_l0 a ha (by omega) a.length 12200 0 0 (by omega) (by omega) (by omega) (by omega) (by rw [List.drop_zero]; omega)

end Go.Proofs.Ytfmjcogcoclhpaa.Pure
