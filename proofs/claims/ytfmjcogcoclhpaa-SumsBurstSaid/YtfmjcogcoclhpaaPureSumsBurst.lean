/- Texts that differ in bits side by side alone, up to 16, up to 32, have unlike sums: for every text of bytes (the statement's own bound: up to 600 bytes), every place, every pattern. -/
import Derived.Test.YtfmjcogcoclhpaaSumsSumsBurst
namespace Go.Proofs.Ytfmjcogcoclhpaa.Pure
open Go.RowKit Go.Proofs.Ytfmjcogcoclhpaa.PSumsBurst Go.Proofs.YtfmjcogcoclhpaaW.PrintWords Go.Proofs.YtfmjcogcoclhpaaW.PrintLast Go.Proofs.YtfmjcogcoclhpaaW.PrintMore Go.Proofs.Ytfmjcogcoclhpaa.Crc Go.Proofs.Ytfmjcogcoclhpaa.Nums

theorem wraps64_nat (n : Nat) (h : n < 2 ^ 63) : wrap64 (n : Int) = n := wraps64 _ (by omega) (by omega)
theorem shl_i64 (w : Nat) (hw : w ≤ 62) : shl .i64 1 (w : Int) = ((2 ^ w : Nat) : Int) := by
  have hp : 2 ^ w ≤ 2 ^ 62 := Nat.pow_le_pow_right (by decide) hw
  have hp0 : 0 < 2 ^ w := Nat.two_pow_pos w
  unfold shl
  rw [Int.toNat_natCast, show min w (IntKind.bits .i64) = w by simp [IntKind.bits]; omega, Int.one_mul, show (2 : Int) ^ w = ((2 ^ w : Nat) : Int) by simp]
  generalize 2 ^ w = p at hp hp0
  exact wraps_i64 _ (by omega) (by omega)
theorem shl_u8 (t : Nat) (ht : t < 8) : shl .u8 1 (t : Int) = ((2 ^ t : Nat) : Int) := by
  have hp : 2 ^ t ≤ 2 ^ 7 := Nat.pow_le_pow_right (by decide) (by omega)
  have hp0 : 0 < 2 ^ t := Nat.two_pow_pos t
  unfold shl
  rw [Int.toNat_natCast, show min t (IntKind.bits .u8) = t by simp [IntKind.bits]; omega, Int.one_mul, show (2 : Int) ^ t = ((2 ^ t : Nat) : Int) by simp]
  generalize 2 ^ t = p at hp hp0
  exact wraps_u8 _ (by omega) (by omega)
theorem shr_i64 (n i : Nat) (hi : i < 64) : shr .i64 (n : Int) (i : Int) = ((n / 2 ^ i : Nat) : Int) := by
  unfold shr
  rw [Int.toNat_natCast, show min i (IntKind.bits .i64) = i by simp [IntKind.bits]; omega]
  rw [show ((2 : Int) ^ i) = ((2 ^ i : Nat) : Int) by simp]
  exact (Int.natCast_ediv n (2 ^ i)).symm
/-- The pattern: odd, of up to k bits. -/
theorem pattern (x : Int) (k : Nat) (hk1 : 1 ≤ k) (hk : k ≤ 32) : ∃ n : Nat, Go.bits .or .i64 (Go.bits .and .i64 x ((2 ^ k - 1 : Nat) : Int)) 1 = (n : Int) ∧ n < 2 ^ k ∧ n % 2 = 1 := by
  have hp : 2 ^ k ≤ 2 ^ 32 := Nat.pow_le_pow_right (by decide) hk
  have hp1 : 2 ^ 1 ≤ 2 ^ k := Nat.pow_le_pow_right (by decide) hk1
  have h1 : Go.bits .and .i64 x ((2 ^ k - 1 : Nat) : Int) = (((BitVec.ofInt 64 x).toNat &&& (2 ^ k - 1) : Nat) : Int) := by
    have hb : Go.bits .and .i64 x ((2 ^ k - 1 : Nat) : Int) = IntKind.i64.wrap ((((BitVec.ofInt 64 x) &&& (BitVec.ofInt 64 ((2 ^ k - 1 : Nat) : Int))).toNat : Nat) : Int) := rfl
    rw [hb, BitVec.ofInt_natCast, BitVec.toNat_and, BitVec.toNat_ofNat, Nat.mod_eq_of_lt (show 2 ^ k - 1 < 2 ^ 64 by omega)]
    have := Nat.and_le_right (n := (BitVec.ofInt 64 x).toNat) (m := 2 ^ k - 1)
    exact wraps_i64 _ (by omega) (by omega)
  have h2 := Nat.and_le_right (n := (BitVec.ofInt 64 x).toNat) (m := 2 ^ k - 1)
  rw [h1]
  generalize (BitVec.ofInt 64 x).toNat &&& (2 ^ k - 1) = t at h2
  refine ⟨t ||| 1, ?_, Nat.or_lt_two_pow (by omega) (by omega), ?_⟩
  · exact or_i64 t 1 (by omega) (by decide)
  · have := @Nat.or_mod_two_pow t 1 1
    rw [Nat.pow_one] at this
    rw [this]
    rcases (by omega : t % 2 = 0 ∨ t % 2 = 1) with h | h <;> rw [h] <;> rfl
theorem mod_odd (n i : Nat) (hn : n % 2 = 1) (hi : 1 ≤ i) : n % 2 ^ i ≠ 0 := by
  obtain ⟨q, rfl⟩ : ∃ q, i = q + 1 := ⟨i - 1, by omega⟩
  intro h
  have := Nat.mod_mul_right_mod n 2 (2 ^ q)
  rw [← Nat.pow_succ', h] at this
  omega
theorem sh_ne (bs xs : List Nat) (at_ m : Nat) (hl : xs.length = bs.length) (hat : at_ < 8 * bs.length) (hm : m < 2 ^ 16) (hm0 : m ≠ 0) (hv : val xs = val bs ^^^ (2 ^ at_ * m)) : sh xs ≠ sh bs := by
  intro h
  have := burst (w := 15) (D := 33800) (r := 65535) (by decide) (by decide) hl hat hm hm0 hv
  apply this
  have h2 := congrArg (fun z => z ^^^ 65535) h
  simpa only [sh, Nat.xor_assoc, Nat.xor_self, Nat.xor_zero] using h2
theorem lo_ne (bs xs : List Nat) (at_ m : Nat) (hl : xs.length = bs.length) (hat : at_ < 8 * bs.length) (hm : m < 2 ^ 32) (hm0 : m ≠ 0) (hv : val xs = val bs ^^^ (2 ^ at_ * m)) : lo xs ≠ lo bs := by
  intro h
  have := burst (w := 31) (D := 3988292384) (r := 4294967295) (by decide) (by decide) hl hat hm hm0 hv
  apply this
  have h2 := congrArg (fun z => z ^^^ 4294967295) h
  simpa only [lo, Nat.xor_assoc, Nat.xor_self, Nat.xor_zero] using h2
/-- The end: the sums are unlike. -/
theorem burst_end (bs xs : List Nat) (hb : ∀ c ∈ bs, c < 256) (hx : ∀ c ∈ xs, c < 256) (h600 : bs.length ≤ 600) (hl : xs.length = bs.length) (at_ m n : Nat) (wide : Bool) (kk : Nat) (hkk : kk = if wide = true then 32 else 16) (hat : at_ < 8 * bs.length) (hm : m < 2 ^ kk) (hm0 : m ≠ 0)
    (hv : val xs = val bs ^^^ (2 ^ at_ * m)) (k : Nat) (hk : 4000 < k) (i : Int) : wherrylaw08_SumsBurst.j3 k (ints bs) at_ n wide kk (ints xs) i false = some true := by
  obtain ⟨k, rfl⟩ : ∃ q, k = q + 1 := ⟨k - 1, by omega⟩
  have hp : 2 ^ kk ≤ 2 ^ 32 := Nat.pow_le_pow_right (by decide) (by rw [hkk]; split <;> omega)
  have hlo := lo_ne bs xs at_ m hl hat (by omega) hm0 hv
  simp only [wherrylaw08_SumsBurst.j3]
  rw [if_neg (by simp), long_eq xs hx (by omega) _ (by omega) (by omega), long_eq bs hb (by omega) _ (by omega) (by omega), short_eq xs hx (by omega) _ (by omega) (by omega), short_eq bs hb (by omega) _ (by omega) (by omega)]
  simp only [Option.bind_some]
  by_cases hw : wide = true
  · rw [if_pos hw, if_neg (by omega), wakes_eq _ (by omega)]; rfl
  · rw [if_neg hw] at hkk
    subst hkk
    have hsh := sh_ne bs xs at_ m hl hat hm hm0 hv
    rw [if_neg hw, if_neg (by omega), if_neg (by omega), wakes_eq _ (by omega)]; rfl
theorem burst_l0 (bs : List Nat) (hb : ∀ c ∈ bs, c < 256) (h600 : bs.length ≤ 600) (at_ n : Nat) (wide : Bool) (kk : Nat) (hkk : kk = if wide = true then 32 else 16) (hat : at_ < 8 * bs.length) (hn : n < 2 ^ kk) (hodd : n % 2 = 1) : ∀ (j k i : Nat) (xs : List Nat), i ≤ kk → kk - i = j → 2 * j + 4010 < k →
    (∀ c ∈ xs, c < 256) → xs.length = bs.length → val xs = val bs ^^^ (2 ^ at_ * (n % 2 ^ i)) → wherrylaw08_SumsBurst.l0 k (ints bs) at_ n wide kk (ints xs) i = some true := by
  have hk32 : kk ≤ 32 := by rw [hkk]; split <;> omega
  have hk16 : 16 ≤ kk := by rw [hkk]; split <;> omega
  have hp : 2 ^ kk ≤ 2 ^ 32 := Nat.pow_le_pow_right (by decide) hk32
  intro j
  induction j with
  | zero =>
    intro k i xs hi hj hk hx hl hv
    obtain ⟨k, rfl⟩ : ∃ q, k = q + 1 := ⟨k - 1, by omega⟩
    simp only [wherrylaw08_SumsBurst.l0]
    rw [if_neg (by omega)]
    have hm : n % 2 ^ i < 2 ^ kk := Nat.lt_of_le_of_lt (Nat.mod_le _ _) hn
    exact burst_end bs xs hb hx h600 hl at_ _ n wide kk hkk hat hm (mod_odd n i hodd (by omega)) hv k (by omega) i
  | succ j ih =>
    intro k i xs hi hj hk hx hl hv
    obtain ⟨k, rfl⟩ : ∃ q, k = q + 1 := ⟨k - 1, by omega⟩
    simp only [wherrylaw08_SumsBurst.l0]
    rw [if_pos (by omega), ints_length, wraps64 ((at_ : Int) + i) (by omega) (by omega), wraps64 (8 * (bs.length : Int)) (by omega) (by omega)]
    by_cases hend : at_ + i < 8 * bs.length
    · rw [decide_eq_true (by omega)]
      obtain ⟨k, rfl⟩ : ∃ q, k = q + 1 := ⟨k - 1, by omega⟩
      simp only [wherrylaw08_SumsBurst.j3]
      have hq : n / 2 ^ i ≤ n := Nat.div_le_self _ _
      rw [if_pos trivial, wraps_u64 _ (by omega) (by omega), if_pos (by omega), shr_i64 n i (by omega), and1_i64 _ (by omega), wraps64 ((at_ : Int) + i) (by omega) (by omega), wraps64 ((i : Int) + 1) (by omega) (by omega)]
      have hms := mod_succ n i
      have e1 : (i : Int) + 1 = ((i + 1 : Nat) : Int) := by omega
      rw [e1]
      rcases (by omega : n / 2 ^ i % 2 = 0 ∨ n / 2 ^ i % 2 = 1) with hbit | hbit
      · rw [hbit, Nat.mul_zero, Nat.xor_zero] at hms
        rw [hbit, if_neg (by decide)]
        exact ih k (i + 1) xs (by omega) (by omega) (by omega) hx hl (by rw [hms]; exact hv)
      · rw [hbit, Nat.mul_one] at hms
        have e2 : Int.tdiv ((at_ : Int) + i) 8 = (((at_ + i) / 8 : Nat) : Int) := by rw [Int.tdiv_eq_ediv_of_nonneg (by omega)]; omega
        have e3 : Int.tmod ((at_ : Int) + i) 8 = (((at_ + i) % 8 : Nat) : Int) := by rw [Int.tmod_eq_emod_of_nonneg (by omega)]; omega
        have hp8 : (at_ + i) / 8 < xs.length := by omega
        have hc : xs[(at_ + i) / 8] < 256 := hx _ (List.getElem_mem _)
        have ht : 2 ^ ((at_ + i) % 8) < 2 ^ 8 := Nat.pow_lt_pow_right (by decide) (by omega)
        rw [hbit, if_pos (by decide), e2, e3, wraps64 (((at_ + i) / 8 : Nat) : Int) (by omega) (by omega), if_pos (by omega), ints_length, if_pos (by omega), wraps_u64 _ (by omega) (by omega), if_pos (by omega),
          rd_ints xs _ hp8, shl_u8 _ (by omega), xor_u8 _ _ hc (by omega), Int.toNat_natCast, ints_set]
        refine ih k (i + 1) _ (by omega) (by omega) (by omega) ?_ (by rw [List.length_set]; exact hl) ?_
        · intro c hc2
          rcases List.mem_or_eq_of_mem_set hc2 with h | h
          · exact hx c h
          · rw [h]; exact Nat.xor_lt_two_pow (n := 8) hc ht
        · rw [val_set xs _ hp8, hv, hms, mul_xor, ← Nat.pow_add, Nat.xor_assoc, show 8 * ((at_ + i) / 8) + (at_ + i) % 8 = at_ + i by omega]
    · rw [decide_eq_false (by omega)]
      have hm : n % 2 ^ i < 2 ^ kk := Nat.lt_of_le_of_lt (Nat.mod_le _ _) hn
      exact burst_end bs xs hb hx h600 hl at_ _ n wide kk hkk hat hm (mod_odd n i hodd (by omega)) hv k (by omega) i
theorem SumsBurst : wherrylaw08_SumsBurst.Pure := by
  intro l0 a1 a2 wide _ _ hb0 _ _
  obtain ⟨a, rfl, ha⟩ := bytes_ints l0 hb0
  refine ⟨4999 + 1, ?_⟩
  unfold wherrylaw08_SumsBurst.f
  rw [ints_length]
  by_cases h0 : (a.length : Int) > 600
  · rw [if_pos h0]
    simp only [wherrylaw08_SumsBurst.j0]; rfl
  rw [if_neg h0]
  by_cases h1 : a.length = 0
  · rw [show ((a.length : Int) == 0) = true by simp [h1]]
    simp only [wherrylaw08_SumsBurst.j0]; rfl
  rw [show ((a.length : Int) == 0) = false from beq_eq_false_iff_ne.2 (by omega)]
  obtain ⟨p, rfl⟩ : ∃ p, p = 4998 := ⟨_, rfl⟩
  simp only [wherrylaw08_SumsBurst.j0]
  rw [if_neg (by simp), ints_length, wraps64 (8 * (a.length : Int)) (by omega) (by omega), wraps_u64 (8 * (a.length : Int)) (by omega) (by omega), if_neg (by omega)]
  have hu : 0 ≤ IntKind.u64.wrap a1 ∧ IntKind.u64.wrap a1 < 18446744073709551616 := by rw [wrap_u64]; omega
  obtain ⟨u, hu2⟩ := Int.eq_ofNat_of_zero_le hu.1
  have e1 : wrap64 (Int.tmod (IntKind.u64.wrap a1) (8 * (a.length : Int))) = ((u % (8 * a.length) : Nat) : Int) := by
    rw [hu2, show (8 * (a.length : Int)) = ((8 * a.length : Nat) : Int) by omega, ← Int.ofNat_tmod]
    have := Nat.mod_lt u (show 0 < 8 * a.length by omega)
    exact wraps64_nat _ (by omega)
  rw [e1]
  have hat := Nat.mod_lt u (show 0 < 8 * a.length by omega)
  have main : ∀ kk : Nat, kk = (if wide = true then 32 else 16) → wherrylaw08_SumsBurst.j1 4999 (ints a) ((u % (8 * a.length) : Nat) : Int) a2 wide kk = some true := by
    intro kk hkk
    have hk32 : kk ≤ 32 := by rw [hkk]; split <;> omega
    have hk16 : 16 ≤ kk := by rw [hkk]; split <;> omega
    have hp : 2 ^ kk ≤ 2 ^ 32 := Nat.pow_le_pow_right (by decide) hk32
    have hp0 : 0 < 2 ^ kk := Nat.two_pow_pos kk
    simp only [wherrylaw08_SumsBurst.j1]
    obtain ⟨n, hn, hn1, hn2⟩ := pattern a2 kk (by omega) hk32
    rw [wraps_u64 _ (by omega) (by omega), if_pos (by omega), twin_eq a (by omega), Option.bind_some, shl_i64 kk (by omega), show ((2 ^ kk : Nat) : Int) - 1 = ((2 ^ kk - 1 : Nat) : Int) by omega, wraps64_nat _ (by omega), hn]
    exact burst_l0 a ha (by omega) _ n wide kk hkk hat hn1 hn2 kk 4998 0 a (by omega) (by omega) (by omega) ha rfl (by simp [Nat.mod_one])
  by_cases hw : wide = true
  · rw [if_pos hw]
    exact main 32 (by rw [if_pos hw])
  · rw [if_neg hw]
    exact main 16 (by rw [if_neg hw])

end Go.Proofs.Ytfmjcogcoclhpaa.Pure
