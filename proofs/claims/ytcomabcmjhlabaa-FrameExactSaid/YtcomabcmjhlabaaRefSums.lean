/- The reference's sums, as numbers. -/
import Derived.Test.YtcomabcmjhlabaaSums
import Derived.Test.YtcomabcmjhlabaaFAx11
namespace Go.Proofs.Ytcomabcmjhlabaa.FA
open Go.RowKit Go.Proofs.YtcomabcmjhlabaaW.PrintWords Go.Proofs.YtcomabcmjhlabaaW.PrintLast Go.Proofs.YtcomabcmjhlabaaW.PrintMore Go.Proofs.Ytcomabcmjhlabaa.Crc Go.Proofs.Ytcomabcmjhlabaa.Nums

theorem shr_u8 (c i : Nat) (hi : i < 8) : shr .u8 (c : Int) (i : Int) = ((c / 2 ^ i : Nat) : Int) := by
  unfold shr
  rw [Int.toNat_natCast, show min i (IntKind.bits .u8) = i by simp [IntKind.bits]; omega]
  rw [show ((2 : Int) ^ i) = ((2 ^ i : Nat) : Int) by simp]
  exact (Int.natCast_ediv c (2 ^ i)).symm
theorem bit_u8 (c i : Nat) (hc : c < 256) (hi : i < 8) : Go.bits .and .u8 (shr .u8 (c : Int) (i : Int)) 1 = ((c / 2 ^ i % 2 : Nat) : Int) := by
  rw [shr_u8 c i hi, and1_u8]
  exact Nat.lt_of_le_of_lt (Nat.div_le_self _ _) hc
theorem bits8_lt {D w : Nat} (hw : 1 ≤ w) (hD : D < 2 ^ w) (r c : Nat) (hr : r < 2 ^ w) : ∀ i, bits8 D r c i < 2 ^ w := by
  intro i
  induction i with
  | zero => exact hr
  | succ i ih =>
    refine dn_lt hD (Nat.xor_lt_two_pow ih ?_)
    have h2 : 2 ^ 1 ≤ 2 ^ w := Nat.pow_le_pow_right (by decide) hw
    omega
def crcb (D r : Nat) (bs : List Nat) : Nat := bs.foldl (fun r c => bits8 D r c 8) r
theorem crcb_eq (D : Nat) (bs : List Nat) (hb : ∀ c ∈ bs, c < 256) : ∀ r, crcb D r bs = crc D r bs := by
  induction bs with
  | nil => intro r; rfl
  | cons c cs ih =>
    intro r
    show crcb D (bits8 D r c 8) cs = _
    rw [crc_cons, ← bits8_all D r c (hb c List.mem_cons_self), ih (fun x hx => hb x (List.mem_cons_of_mem _ hx))]
theorem wraps64_nat (n : Nat) (h : n < 2 ^ 63) : wrap64 (n : Int) = n := wraps64 _ (by omega) (by omega)
theorem shl_i64 (w : Nat) (hw : w ≤ 62) : shl .i64 1 (w : Int) = ((2 ^ w : Nat) : Int) := by
  have hp : 2 ^ w ≤ 2 ^ 62 := Nat.pow_le_pow_right (by decide) hw
  have hp0 : 0 < 2 ^ w := Nat.two_pow_pos w
  unfold shl
  rw [Int.toNat_natCast, show min w (IntKind.bits .i64) = w by simp [IntKind.bits]; omega, Int.one_mul, show (2 : Int) ^ w = ((2 ^ w : Nat) : Int) by simp]
  generalize 2 ^ w = p at hp hp0
  exact wraps_i64 _ (by omega) (by omega)
theorem dn_bit (D r b : Nat) (hb : b < 2) : dn D (r ^^^ b) = if r % 2 = b then r / 2 else (r / 2) ^^^ D := by
  unfold dn
  rw [Nat.xor_div_two, show b / 2 = 0 by omega, Nat.xor_zero]
  have h := @Nat.xor_mod_two_eq_one r b
  by_cases e : r % 2 = b
  · rw [if_pos e, if_neg (by rw [h]; omega)]
  · rw [if_neg e, if_pos (by rw [h]; omega)]
theorem ref_l1 (D w : Nat) (hw1 : 1 ≤ w) (hw : w ≤ 32) (hD : D < 2 ^ w) (bs : List Nat) (i : Nat) (hi : i < bs.length) (hc : bs[i] < 256) (hn : bs.length < 2 ^ 62) (r : Nat) (hr : r < 2 ^ w) (k : Nat) : ∀ j, j ≤ 8 →
    wherryref08_Carry.l1 (k + j + 1) (ints bs) w D ((bits8 D r bs[i] (8 - j) : Nat) : Int) i ((8 - j : Nat) : Int) = wherryref08_Carry.l0 k (ints bs) w D ((bits8 D r bs[i] 8 : Nat) : Int) ((i + 1 : Nat) : Int) := by
  have hp : 2 ^ w ≤ 2 ^ 32 := Nat.pow_le_pow_right (by decide) hw
  intro j
  induction j with
  | zero =>
    intro _
    simp only [wherryref08_Carry.l1]
    rw [if_neg (by omega), wraps64 _ (by omega) (by omega)]
    rfl
  | succ j ih =>
    intro hj
    obtain ⟨m, hm⟩ : ∃ m, k + j + 1 = m := ⟨_, rfl⟩
    rw [show k + (j + 1) + 1 = m + 1 by omega]
    simp only [wherryref08_Carry.l1]
    have hb := bits8_lt hw1 hD r bs[i] hr (8 - (j + 1))
    have hq : bs[i] / 2 ^ (8 - (j + 1)) ≤ bs[i] := Nat.div_le_self _ _
    have e : ((8 - (j + 1) : Nat) : Int) + 1 = ((8 - j : Nat) : Int) := by omega
    have e2 : bits8 D r bs[i] (8 - j) = dn D (bits8 D r bs[i] (8 - (j + 1)) ^^^ (bs[i] / 2 ^ (8 - (j + 1)) % 2)) := by
      rw [show 8 - j = (8 - (j + 1)) + 1 by omega]
      rfl
    rw [dn_bit D _ _ (by omega)] at e2
    have e3 : ((bits8 D r bs[i] (8 - (j + 1)) : Nat) : Int) / 2 = ((bits8 D r bs[i] (8 - (j + 1)) / 2 : Nat) : Int) := by omega
    rw [if_pos (by omega), if_pos (by omega), ints_length, if_pos (by omega), wraps_u64 _ (by omega) (by omega), if_pos (by omega), rd_ints bs i hi, shr_u8 _ _ (by omega), wraps64_nat (bs[i] / 2 ^ (8 - (j + 1))) (by omega),
      and1_i64 _ (by omega), and1_i64 _ (by omega), wraps64 _ (by omega) (by omega), e, e3]
    by_cases h : bits8 D r bs[i] (8 - (j + 1)) % 2 = bs[i] / 2 ^ (8 - (j + 1)) % 2
    · rw [if_pos h] at e2
      rw [if_pos (by omega), ← e2, ← hm, ih (by omega)]
    · rw [if_neg h] at e2
      rw [if_neg (by omega), xor_i64 _ _ (by omega) (by omega), ← e2, ← hm, ih (by omega)]
theorem ref_l0 (D w : Nat) (hw1 : 1 ≤ w) (hw : w ≤ 32) (hD : D < 2 ^ w) (bs : List Nat) (hb : ∀ c ∈ bs, c < 256) (hn : bs.length < 2 ^ 62) : ∀ (j k i r : Nat), i ≤ bs.length → bs.length - i = j → 10 * j < k → r < 2 ^ w →
    wherryref08_Carry.l0 k (ints bs) w D r i = some ((crcb D r (bs.drop i) ^^^ (2 ^ w - 1) : Nat) : Int) := by
  have hp : 2 ^ w ≤ 2 ^ 32 := Nat.pow_le_pow_right (by decide) hw
  have hp0 : 0 < 2 ^ w := Nat.two_pow_pos w
  intro j
  induction j with
  | zero =>
    intro k i r hi hj hk hr
    obtain ⟨k, rfl⟩ : ∃ m, k = m + 1 := ⟨k - 1, by omega⟩
    simp only [wherryref08_Carry.l0]
    rw [ints_length, if_neg (by omega), wraps_u64 _ (by omega) (by omega), if_pos (by omega), shl_i64 w (by omega), wraps64 _ (by omega) (by omega), show ((2 ^ w : Nat) : Int) - 1 = ((2 ^ w - 1 : Nat) : Int) by omega,
      xor_i64 _ _ (by omega) (by omega), List.drop_of_length_le (by omega)]
    rfl
  | succ j ih =>
    intro k i r hi hj hk hr
    obtain ⟨k, rfl⟩ : ∃ m, k = m + 8 + 1 + 1 := ⟨k - 10, by omega⟩
    obtain ⟨m, hm⟩ : ∃ m, k + 8 + 1 = m := ⟨_, rfl⟩
    rw [hm]
    have hlt : i < bs.length := by omega
    have hc : bs[i] < 256 := hb _ (List.getElem_mem hlt)
    simp only [wherryref08_Carry.l0]
    rw [ints_length, if_pos (by omega), ← hm]
    have h := ref_l1 D w hw1 hw hD bs i hlt hc hn r hr k 8 (by omega)
    rw [show ((8 - 8 : Nat) : Int) = 0 from rfl, show bits8 D r bs[i] (8 - 8) = r from rfl] at h
    refine h.trans ?_
    rw [ih k (i + 1) _ (by omega) (by omega) (by omega) (bits8_lt hw1 hD r _ hr 8), List.drop_eq_getElem_cons hlt]
    rfl
theorem ref_eq (D w : Nat) (hw1 : 1 ≤ w) (hw : w ≤ 32) (hD : D < 2 ^ w) (bs : List Nat) (hb : ∀ c ∈ bs, c < 256) (hn : bs.length < 2 ^ 62) (k : Nat) (hk : 10 * bs.length < k) :
    wherryref08_Carry.f k (ints bs) w D = some ((crc D (2 ^ w - 1) bs ^^^ (2 ^ w - 1) : Nat) : Int) := by
  have hp : 2 ^ w ≤ 2 ^ 32 := Nat.pow_le_pow_right (by decide) hw
  have hp0 : 0 < 2 ^ w := Nat.two_pow_pos w
  unfold wherryref08_Carry.f
  rw [wraps_u64 _ (by omega) (by omega), if_pos (by omega), shl_i64 w (by omega), wraps64 _ (by omega) (by omega), show ((2 ^ w : Nat) : Int) - 1 = ((2 ^ w - 1 : Nat) : Int) by omega]
  have h := ref_l0 D w hw1 hw hD bs hb hn bs.length k 0 (2 ^ w - 1) (by omega) (by omega) hk (by omega)
  rw [List.drop_zero, crcb_eq D bs hb] at h
  exact h
theorem ref_short (bs : List Nat) (hb : ∀ c ∈ bs, c < 256) (hn : bs.length < 2 ^ 62) (k : Nat) (hk : 10 * bs.length < k) : wherryref08_Short.f k (ints bs) = some ((sh bs : Nat) : Int) := by
  unfold wherryref08_Short.f
  have h := ref_eq 33800 16 (by decide) (by decide) (by decide) bs hb hn k hk
  rw [show ((16 : Nat) : Int) = 16 from rfl, show ((33800 : Nat) : Int) = 33800 from rfl] at h
  rw [h]; rfl

end Go.Proofs.Ytcomabcmjhlabaa.FA
