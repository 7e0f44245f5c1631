/- What the printed Carry of package sums comes to, as numbers. -/
import Derived.Test.YtfmjcogcoclhpaaSumsSumsExact
namespace Go.Proofs.Ytfmjcogcoclhpaa.PSumsExact
open Go.RowKit Go.Proofs.YtfmjcogcoclhpaaW.PrintWords Go.Proofs.YtfmjcogcoclhpaaW.PrintLast Go.Proofs.YtfmjcogcoclhpaaW.PrintMore Go.Proofs.Ytfmjcogcoclhpaa.Crc Go.Proofs.Ytfmjcogcoclhpaa.Nums

theorem shr_u8 (c i : Nat) (hi : i < 8) : shr .u8 (c : Int) (i : Int) = ((c / 2 ^ i : Nat) : Int) := by
  unfold shr
  rw [Int.toNat_natCast, show min i (IntKind.bits .u8) = i by simp [IntKind.bits]; omega]
  rw [show ((2 : Int) ^ i) = ((2 ^ i : Nat) : Int) by simp]
  exact (Int.natCast_ediv c (2 ^ i)).symm
theorem bit_u8 (c i : Nat) (hc : c < 256) (hi : i < 8) : Go.bits .and .u8 (shr .u8 (c : Int) (i : Int)) 1 = ((c / 2 ^ i % 2 : Nat) : Int) := by
  rw [shr_u8 c i hi, and1_u8]
  exact Nat.lt_of_le_of_lt (Nat.div_le_self _ _) hc
theorem bits8_lt {D w : Nat} (hw : 1 ≤ w) (hD : D < 2 ^ w) (r c : Nat) (hr : r < 2 ^ w) : ∀ i, bits8 D r c i < 2 ^ w := by
  intro i
  induction i with
  | zero => exact hr
  | succ i ih =>
    refine dn_lt hD (Nat.xor_lt_two_pow ih ?_)
    have h2 : 2 ^ 1 ≤ 2 ^ w := Nat.pow_le_pow_right (by decide) hw
    omega
def crcb (D r : Nat) (bs : List Nat) : Nat := bs.foldl (fun r c => bits8 D r c 8) r
theorem crcb_eq (D : Nat) (bs : List Nat) (hb : ∀ c ∈ bs, c < 256) : ∀ r, crcb D r bs = crc D r bs := by
  induction bs with
  | nil => intro r; rfl
  | cons c cs ih =>
    intro r
    show crcb D (bits8 D r c 8) cs = _
    rw [crc_cons, ← bits8_all D r c (hb c List.mem_cons_self), ih (fun x hx => hb x (List.mem_cons_of_mem _ hx))]
theorem carry_l1 (D w : Nat) (hw1 : 1 ≤ w) (hw : w ≤ 32) (hD : D < 2 ^ w) (c : Nat) (hc : c < 256) (xs : List Int) (y : Int) (i : Nat) (hi : i < 2 ^ 62) (r : Nat) (hr : r < 2 ^ w) (k : Nat) : ∀ j, j ≤ 8 →
    sums_Carry.l1 (k + j + 1) w D ((bits8 D r c (8 - j) : Nat) : Int) c xs y i ((8 - j : Nat) : Int) = sums_Carry.l0 k w D ((bits8 D r c 8 : Nat) : Int) xs y ((i + 1 : Nat) : Int) := by
  have hp : 2 ^ w ≤ 2 ^ 32 := Nat.pow_le_pow_right (by decide) hw
  intro j
  induction j with
  | zero =>
    intro _
    simp only [sums_Carry.l1]
    rw [if_neg (by omega), wraps64 _ (by omega) (by omega)]
    rfl
  | succ j ih =>
    intro hj
    obtain ⟨m, hm⟩ : ∃ m, k + j + 1 = m := ⟨_, rfl⟩
    rw [show k + (j + 1) + 1 = m + 1 by omega]
    simp only [sums_Carry.l1]
    have hb := bits8_lt hw1 hD r c hr (8 - (j + 1))
    have hx : bits8 D r c (8 - (j + 1)) ^^^ (c / 2 ^ (8 - (j + 1)) % 2) < 2 ^ 64 := Nat.xor_lt_two_pow (by omega) (by omega)
    rw [if_pos (by omega), wraps_u64 ((8 - (j + 1) : Nat) : Int) (by omega) (by omega), if_pos (by omega), bit_u8 c _ hc (by omega), wraps_u64 _ (by omega) (by omega), xor_u64 _ _ (by omega) (by omega), wraps_u64 _ (by omega) (by omega),
      down_eq _ D hx (by omega), Option.bind_some, wraps64 _ (by omega) (by omega)]
    have e : ((8 - (j + 1) : Nat) : Int) + 1 = ((8 - j : Nat) : Int) := by omega
    have e2 : dn D (bits8 D r c (8 - (j + 1)) ^^^ (c / 2 ^ (8 - (j + 1)) % 2)) = bits8 D r c (8 - j) := by
      rw [show 8 - j = (8 - (j + 1)) + 1 by omega]
      rfl
    rw [e, e2, ← hm, ih (by omega)]
theorem carry_l0 (D w : Nat) (hw1 : 1 ≤ w) (hw : w ≤ 32) (hD : D < 2 ^ w) (bs : List Nat) (hb : ∀ c ∈ bs, c < 256) (hn : bs.length < 2 ^ 62) : ∀ (j k i r : Nat), i ≤ bs.length → bs.length - i = j → 10 * j < k → r < 2 ^ w →
    sums_Carry.l0 k w D r (ints bs) ((bs.length : Nat) : Int) i = some (((crcb D r (bs.drop i) ^^^ (2 ^ w - 1) : Nat) : Int), 0) := by
  have hp : 2 ^ w ≤ 2 ^ 32 := Nat.pow_le_pow_right (by decide) hw
  have hp0 : 0 < 2 ^ w := Nat.two_pow_pos w
  intro j
  induction j with
  | zero =>
    intro k i r hi hj hk hr
    obtain ⟨k, rfl⟩ : ∃ m, k = m + 1 := ⟨k - 1, by omega⟩
    simp only [sums_Carry.l0]
    have hx : r ^^^ (2 ^ w - 1) < 2 ^ w := Nat.xor_lt_two_pow hr (by omega)
    rw [if_neg (by omega), ones_eq w (by omega), Option.bind_some, xor_u64 _ _ (by omega) (by omega), wraps64 _ (by omega) (by omega), List.drop_of_length_le (by omega)]
    rfl
  | succ j ih =>
    intro k i r hi hj hk hr
    obtain ⟨k, rfl⟩ : ∃ m, k = m + 8 + 1 + 1 := ⟨k - 10, by omega⟩
    obtain ⟨m, hm⟩ : ∃ m, k + 8 + 1 = m := ⟨_, rfl⟩
    rw [hm]
    have hlt : i < bs.length := by omega
    have hc : bs[i] < 256 := hb _ (List.getElem_mem hlt)
    simp only [sums_Carry.l0]
    rw [if_pos (by omega), if_pos (by omega), ints_length, if_pos (by omega), rd_ints bs i hlt, ← hm]
    have h := carry_l1 D w hw1 hw hD bs[i] hc (ints bs) ((bs.length : Nat) : Int) i (by omega) r hr k 8 (by omega)
    rw [show ((8 - 8 : Nat) : Int) = 0 from rfl, show bits8 D r bs[i] (8 - 8) = r from rfl] at h
    rw [h, ih k (i + 1) _ (by omega) (by omega) (by omega) (bits8_lt hw1 hD r _ hr 8), List.drop_eq_getElem_cons hlt]
    rfl
theorem carry_eq (D w : Nat) (hw1 : 1 ≤ w) (hw : w ≤ 32) (hD : D < 2 ^ w) (bs : List Nat) (hb : ∀ c ∈ bs, c < 256) (hn : bs.length < 2 ^ 62) (k : Nat) (hk : 10 * bs.length + 1 < k) :
    sums_Carry.f k (ints bs) w D = some (((crc D (2 ^ w - 1) bs ^^^ (2 ^ w - 1) : Nat) : Int), 0) := by
  have hp : 2 ^ w ≤ 2 ^ 32 := Nat.pow_le_pow_right (by decide) hw
  have hp0 : 0 < 2 ^ w := Nat.two_pow_pos w
  obtain ⟨m, rfl⟩ : ∃ m, k = m + 1 := ⟨k - 1, by omega⟩
  unfold sums_Carry.f
  rw [if_neg (by omega), if_neg (by omega), if_neg (by omega), ones_eq w (by omega), Option.bind_some, wraps_u64 _ (by omega) (by omega), decide_eq_false (by omega)]
  simp only [sums_Carry.j0]
  rw [if_neg (by simp), ones_eq w (by omega), Option.bind_some, ints_length]
  have h := carry_l0 D w hw1 hw hD bs hb hn bs.length m 0 (2 ^ w - 1) (by omega) (by omega) (by omega) (by omega)
  rw [List.drop_zero, crcb_eq D bs hb] at h
  exact h

end Go.Proofs.Ytfmjcogcoclhpaa.PSumsExact
