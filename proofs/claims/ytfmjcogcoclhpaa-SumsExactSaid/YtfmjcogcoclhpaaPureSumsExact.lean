/- The sums of any text, of any width and divisor, or why there is none, are the page's: for every text of bytes (the statement's own bound: up to 600 bytes), every width, every divisor. -/
import Derived.Test.YtfmjcogcoclhpaaCarrySumsExact
import Derived.Test.YtfmjcogcoclhpaaKeepBytesSumsExact
namespace Go.Proofs.Ytfmjcogcoclhpaa.Pure
open Go.RowKit Go.Proofs.Ytfmjcogcoclhpaa.PSumsExact Go.Proofs.YtfmjcogcoclhpaaW.PrintWords Go.Proofs.YtfmjcogcoclhpaaW.PrintLast Go.Proofs.YtfmjcogcoclhpaaW.PrintMore Go.Proofs.Ytfmjcogcoclhpaa.Crc Go.Proofs.Ytfmjcogcoclhpaa.Nums

theorem wraps64_nat (n : Nat) (h : n < 2 ^ 63) : wrap64 (n : Int) = n := wraps64 _ (by omega) (by omega)
theorem shl_i64 (w : Nat) (hw : w ≤ 62) : shl .i64 1 (w : Int) = ((2 ^ w : Nat) : Int) := by
  have hp : 2 ^ w ≤ 2 ^ 62 := Nat.pow_le_pow_right (by decide) hw
  have hp0 : 0 < 2 ^ w := Nat.two_pow_pos w
  unfold shl
  rw [Int.toNat_natCast, show min w (IntKind.bits .i64) = w by simp [IntKind.bits]; omega, Int.one_mul, show (2 : Int) ^ w = ((2 ^ w : Nat) : Int) by simp]
  generalize 2 ^ w = p at hp hp0
  exact wraps_i64 _ (by omega) (by omega)
theorem dn_bit (D r b : Nat) (hb : b < 2) : dn D (r ^^^ b) = if r % 2 = b then r / 2 else (r / 2) ^^^ D := by
  unfold dn
  rw [Nat.xor_div_two, show b / 2 = 0 by omega, Nat.xor_zero]
  have h := @Nat.xor_mod_two_eq_one r b
  by_cases e : r % 2 = b
  · rw [if_pos e, if_neg (by rw [h]; omega)]
  · rw [if_neg e, if_pos (by rw [h]; omega)]
theorem ref_l1 (D w : Nat) (hw1 : 1 ≤ w) (hw : w ≤ 32) (hD : D < 2 ^ w) (bs : List Nat) (i : Nat) (hi : i < bs.length) (hc : bs[i] < 256) (hn : bs.length < 2 ^ 62) (r : Nat) (hr : r < 2 ^ w) (k : Nat) : ∀ j, j ≤ 8 →
    wherryref08_Carry.l1 (k + j + 1) (ints bs) w D ((bits8 D r bs[i] (8 - j) : Nat) : Int) i ((8 - j : Nat) : Int) = wherryref08_Carry.l0 k (ints bs) w D ((bits8 D r bs[i] 8 : Nat) : Int) ((i + 1 : Nat) : Int) := by
  have hp : 2 ^ w ≤ 2 ^ 32 := Nat.pow_le_pow_right (by decide) hw
  intro j
  induction j with
  | zero =>
    intro _
    simp only [wherryref08_Carry.l1]
    rw [if_neg (by omega), wraps64 _ (by omega) (by omega)]
    rfl
  | succ j ih =>
    intro hj
    obtain ⟨m, hm⟩ : ∃ m, k + j + 1 = m := ⟨_, rfl⟩
    rw [show k + (j + 1) + 1 = m + 1 by omega]
    simp only [wherryref08_Carry.l1]
    have hb := bits8_lt hw1 hD r bs[i] hr (8 - (j + 1))
    have hq : bs[i] / 2 ^ (8 - (j + 1)) ≤ bs[i] := Nat.div_le_self _ _
    have e : ((8 - (j + 1) : Nat) : Int) + 1 = ((8 - j : Nat) : Int) := by omega
    have e2 : bits8 D r bs[i] (8 - j) = dn D (bits8 D r bs[i] (8 - (j + 1)) ^^^ (bs[i] / 2 ^ (8 - (j + 1)) % 2)) := by
      rw [show 8 - j = (8 - (j + 1)) + 1 by omega]
      rfl
    rw [dn_bit D _ _ (by omega)] at e2
    have e3 : ((bits8 D r bs[i] (8 - (j + 1)) : Nat) : Int) / 2 = ((bits8 D r bs[i] (8 - (j + 1)) / 2 : Nat) : Int) := by omega
    rw [if_pos (by omega), if_pos (by omega), ints_length, if_pos (by omega), wraps_u64 _ (by omega) (by omega), if_pos (by omega), rd_ints bs i hi, shr_u8 _ _ (by omega), wraps64_nat (bs[i] / 2 ^ (8 - (j + 1))) (by omega),
      and1_i64 _ (by omega), and1_i64 _ (by omega), wraps64 _ (by omega) (by omega), e, e3]
    by_cases h : bits8 D r bs[i] (8 - (j + 1)) % 2 = bs[i] / 2 ^ (8 - (j + 1)) % 2
    · rw [if_pos h] at e2
      rw [if_pos (by omega), ← e2, ← hm, ih (by omega)]
    · rw [if_neg h] at e2
      rw [if_neg (by omega), xor_i64 _ _ (by omega) (by omega), ← e2, ← hm, ih (by omega)]
theorem ref_l0 (D w : Nat) (hw1 : 1 ≤ w) (hw : w ≤ 32) (hD : D < 2 ^ w) (bs : List Nat) (hb : ∀ c ∈ bs, c < 256) (hn : bs.length < 2 ^ 62) : ∀ (j k i r : Nat), i ≤ bs.length → bs.length - i = j → 10 * j < k → r < 2 ^ w →
    wherryref08_Carry.l0 k (ints bs) w D r i = some ((crcb D r (bs.drop i) ^^^ (2 ^ w - 1) : Nat) : Int) := by
  have hp : 2 ^ w ≤ 2 ^ 32 := Nat.pow_le_pow_right (by decide) hw
  have hp0 : 0 < 2 ^ w := Nat.two_pow_pos w
  intro j
  induction j with
  | zero =>
    intro k i r hi hj hk hr
    obtain ⟨k, rfl⟩ : ∃ m, k = m + 1 := ⟨k - 1, by omega⟩
    simp only [wherryref08_Carry.l0]
    rw [ints_length, if_neg (by omega), wraps_u64 _ (by omega) (by omega), if_pos (by omega), shl_i64 w (by omega), wraps64 _ (by omega) (by omega), show ((2 ^ w : Nat) : Int) - 1 = ((2 ^ w - 1 : Nat) : Int) by omega,
      xor_i64 _ _ (by omega) (by omega), List.drop_of_length_le (by omega)]
    rfl
  | succ j ih =>
    intro k i r hi hj hk hr
    obtain ⟨k, rfl⟩ : ∃ m, k = m + 8 + 1 + 1 := ⟨k - 10, by omega⟩
    obtain ⟨m, hm⟩ : ∃ m, k + 8 + 1 = m := ⟨_, rfl⟩
    rw [hm]
    have hlt : i < bs.length := by omega
    have hc : bs[i] < 256 := hb _ (List.getElem_mem hlt)
    simp only [wherryref08_Carry.l0]
    rw [ints_length, if_pos (by omega), ← hm]
    have h := ref_l1 D w hw1 hw hD bs i hlt hc hn r hr k 8 (by omega)
    rw [show ((8 - 8 : Nat) : Int) = 0 from rfl, show bits8 D r bs[i] (8 - 8) = r from rfl] at h
    refine h.trans ?_
    rw [ih k (i + 1) _ (by omega) (by omega) (by omega) (bits8_lt hw1 hD r _ hr 8), List.drop_eq_getElem_cons hlt]
    rfl
theorem ref_eq (D w : Nat) (hw1 : 1 ≤ w) (hw : w ≤ 32) (hD : D < 2 ^ w) (bs : List Nat) (hb : ∀ c ∈ bs, c < 256) (hn : bs.length < 2 ^ 62) (k : Nat) (hk : 10 * bs.length < k) :
    wherryref08_Carry.f k (ints bs) w D = some ((crc D (2 ^ w - 1) bs ^^^ (2 ^ w - 1) : Nat) : Int) := by
  have hp : 2 ^ w ≤ 2 ^ 32 := Nat.pow_le_pow_right (by decide) hw
  have hp0 : 0 < 2 ^ w := Nat.two_pow_pos w
  unfold wherryref08_Carry.f
  rw [wraps_u64 _ (by omega) (by omega), if_pos (by omega), shl_i64 w (by omega), wraps64 _ (by omega) (by omega), show ((2 ^ w : Nat) : Int) - 1 = ((2 ^ w - 1 : Nat) : Int) by omega]
  have h := ref_l0 D w hw1 hw hD bs hb hn bs.length k 0 (2 ^ w - 1) (by omega) (by omega) hk (by omega)
  rw [List.drop_zero, crcb_eq D bs hb] at h
  exact h
theorem ref_short (bs : List Nat) (hb : ∀ c ∈ bs, c < 256) (hn : bs.length < 2 ^ 62) (k : Nat) (hk : 10 * bs.length < k) : wherryref08_Short.f k (ints bs) = some ((sh bs : Nat) : Int) := by
  unfold wherryref08_Short.f
  have h := ref_eq 33800 16 (by decide) (by decide) (by decide) bs hb hn k hk
  rw [show ((16 : Nat) : Int) = 16 from rfl, show ((33800 : Nat) : Int) = 33800 from rfl] at h
  rw [h]; rfl
theorem ref_long (bs : List Nat) (hb : ∀ c ∈ bs, c < 256) (hn : bs.length < 2 ^ 62) (k : Nat) (hk : 10 * bs.length < k) : wherryref08_Long.f k (ints bs) = some ((lo bs : Nat) : Int) := by
  unfold wherryref08_Long.f
  have h := ref_eq 3988292384 32 (by decide) (by decide) (by decide) bs hb hn k hk
  rw [show ((32 : Nat) : Int) = 32 from rfl, show ((3988292384 : Nat) : Int) = 3988292384 from rfl] at h
  rw [h]; rfl
theorem right_eq (a1 a2 : Int) (h1 : -9223372036854775808 ≤ a1 ∧ a1 < 9223372036854775808) (h2 : -9223372036854775808 ≤ a2 ∧ a2 < 9223372036854775808) :
    (∃ w D : Nat, a1 = w ∧ a2 = D ∧ 1 ≤ w ∧ w ≤ 32 ∧ D < 2 ^ w ∧ wherryref08_RightCarry.f a1 a2 = some true) ∨ (wherryref08_RightCarry.f a1 a2 = some false ∧ ∀ l k, sums_Carry.f (k + 1) l a1 a2 = some (0, 1)) := by
  by_cases c1 : a1 < 1
  · right
    constructor
    · unfold wherryref08_RightCarry.f wherryref08_in.f
      rw [if_neg (by omega)]; rfl
    · intro l k
      unfold sums_Carry.f
      rw [if_pos c1]
      simp only [sums_Carry.j0]; rfl
  by_cases c2 : a1 > 32
  · right
    constructor
    · unfold wherryref08_RightCarry.f wherryref08_in.f
      rw [if_pos (by omega), decide_eq_false (by omega)]; rfl
    · intro l k
      unfold sums_Carry.f
      rw [if_neg c1, if_pos c2]
      simp only [sums_Carry.j0]; rfl
  by_cases c3 : a2 < 0
  · right
    constructor
    · unfold wherryref08_RightCarry.f wherryref08_in.f
      rw [if_pos (by omega), decide_eq_true (by omega), Option.bind_some, if_pos rfl, if_neg (by omega)]
    · intro l k
      unfold sums_Carry.f
      rw [if_neg c1, if_neg c2, if_pos c3]
      simp only [sums_Carry.j0]; rfl
  obtain ⟨w, rfl⟩ := Int.eq_ofNat_of_zero_le (show 0 ≤ a1 by omega)
  obtain ⟨D, rfl⟩ := Int.eq_ofNat_of_zero_le (show 0 ≤ a2 by omega)
  have hp : 2 ^ w ≤ 2 ^ 32 := Nat.pow_le_pow_right (by decide) (by omega)
  have hp0 : 0 < 2 ^ w := Nat.two_pow_pos w
  have hr : wherryref08_RightCarry.f (w : Int) (D : Int) = some (decide ((D : Int) < ((2 ^ w : Nat) : Int))) := by
    unfold wherryref08_RightCarry.f wherryref08_in.f
    rw [if_pos (by omega), decide_eq_true (by omega), Option.bind_some, if_pos rfl, if_pos (by omega), wraps_u64 _ (by omega) (by omega), if_pos (by omega), shl_i64 w (by omega)]
  by_cases c4 : D < 2 ^ w
  · left
    refine ⟨w, D, rfl, rfl, by omega, by omega, c4, ?_⟩
    rw [hr, decide_eq_true (by omega)]
  · right
    constructor
    · rw [hr, decide_eq_false (by omega)]
    · intro l k
      unfold sums_Carry.f
      rw [if_neg c1, if_neg c2, if_neg c3, ones_eq w (by omega), Option.bind_some, wraps_u64 _ (by omega) (by omega), decide_eq_true (by omega)]
      simp only [sums_Carry.j0]; rfl
theorem SumsExact : wherrylaw08_SumsExact.Pure := by
  intro l0 a1 a2 _ _ hb0 hw1 hw2
  obtain ⟨a, rfl, ha⟩ := bytes_ints l0 hb0
  refine ⟨9999 + 1, ?_⟩
  unfold wherrylaw08_SumsExact.f
  rw [ints_length]
  by_cases h0 : (a.length : Int) > 600
  · rw [if_pos h0]
  rw [if_neg h0, twin_eq a (by omega), Option.bind_some]
  rcases right_eq a1 a2 (wf_i64 hw1) (wf_i64 hw2) with ⟨w, D, rfl, rfl, h1, h2, h3, h4⟩ | ⟨h4, h5⟩
  · rw [carry_eq D w h1 h2 h3 a ha (by omega) _ (by omega), Option.bind_some, h4, Option.bind_some, if_pos rfl, if_pos rfl, ref_eq D w h1 h2 h3 a ha (by omega) _ (by omega), Option.bind_some, if_pos rfl,
      short_eq a ha (by omega) _ (by omega) (by omega), Option.bind_some, ref_short a ha (by omega) _ (by omega), Option.bind_some, if_pos rfl,
      long_eq a ha (by omega) _ (by omega) (by omega), Option.bind_some, ref_long a ha (by omega) _ (by omega), Option.bind_some, if_pos rfl, keep_bytes _ _ (by rw [ints_length]; omega) _ (by rw [ints_length]; omega), Option.bind_some, if_pos (by simp), wakes_eq _ (by omega)]
    rfl
  · rw [h5, Option.bind_some, h4, Option.bind_some, if_neg (by simp), if_pos rfl, if_pos rfl, wakes_eq _ (by omega)]
    rfl

end Go.Proofs.Ytfmjcogcoclhpaa.Pure
