/- FrameSpoils: what it computes is true. -/
import Derived.Test.YtcomabcmjhlabaaRead
import Derived.Test.YtcomabcmjhlabaaSayFrameSpoils
namespace Go.Proofs.Ytcomabcmjhlabaa.Pure
open Go.RowKit Go.Proofs.Ytcomabcmjhlabaa.FA Go.Proofs.YtcomabcmjhlabaaW.PrintWords Go.Proofs.YtcomabcmjhlabaaW.PrintLast Go.Proofs.YtcomabcmjhlabaaW.PrintMore Go.Proofs.Ytcomabcmjhlabaa.Crc Go.Proofs.Ytcomabcmjhlabaa.Nums
/-- A bit of a row of bytes. -/
theorem val_bit : ∀ (bs : List Nat) (i : Nat), (∀ c ∈ bs, c < 256) → (val bs).testBit i = (bs.getD (i / 8) 0).testBit (i % 8)
  | [], i, _ => by simp [val]
  | c :: cs, i, h => by
    have hc := h c List.mem_cons_self
    have ih := val_bit cs (i - 8) (fun x hx => h x (List.mem_cons_of_mem _ hx))
    simp only [val]
    rw [Nat.testBit_xor, show 256 = 2 ^ 8 by rfl, Nat.testBit_two_pow_mul]
    by_cases hi : 8 ≤ i
    · have e1 : c.testBit i = false := Nat.testBit_lt_two_pow (Nat.lt_of_lt_of_le hc (show 2 ^ 8 ≤ 2 ^ i from Nat.pow_le_pow_right (by decide) hi))
      rw [e1, decide_eq_true hi, ih]
      have e2 : i / 8 = (i - 8) / 8 + 1 := by omega
      have e3 : i % 8 = (i - 8) % 8 := by omega
      rw [e2, e3]
      simp
    · rw [decide_eq_false hi]
      have e2 : i / 8 = 0 := by omega
      have e3 : i % 8 = i := by omega
      rw [e2, e3]
      simp
theorem bit_test (n k : Nat) : (n / 2 ^ k % 2 = 1) ↔ n.testBit k = true := by
  rw [Nat.testBit_eq_decide_div_mod_eq]
  simp
theorem shr_nat (n : Nat) (k : IntKind) (t : Nat) (ht : t ≤ k.bits) : shr k (n : Int) (t : Int) = ((n / 2 ^ t : Nat) : Int) := by
  unfold shr
  rw [Int.toNat_natCast, Nat.min_eq_left ht]
  simp
/-- The lowest bit of a whole number. -/
theorem and1_any (y : Int) : Go.bits .and .i64 y 1 = y % 2 := by
  unfold Go.bits
  have e : ((BitVec.ofInt 64 y) &&& (BitVec.ofInt 64 1)).toNat = (y % 2).toNat := by
    rw [BitVec.toNat_and]
    have h1 : (BitVec.ofInt 64 1).toNat = 1 := by decide
    rw [h1, Nat.and_one_is_mod, BitVec.toNat_ofInt]
    omega
  show IntKind.i64.wrap (((BitVec.ofInt 64 y) &&& (BitVec.ofInt 64 1)).toNat : Int) = _
  rw [e, wraps_i64 _ (by omega) (by omega)]
  omega
theorem cond_iff (x : Int) (j : Nat) (h0 : 0 < j) (hj : j < 16) : FA.cond x j = decide (x / 2 ^ j % 2 = 1) := by
  unfold FA.cond
  rw [and1_any]
  unfold shr
  rw [Int.toNat_natCast, Nat.min_eq_left (by simp [IntKind.bits]; omega)]
  simp [show j ≠ 0 by omega]
theorem mod_bits (x : Int) : Int.tmod (wrap64 (Int.tmod x 65536 + 65536)) 65536 = x % 65536 := by
  have h1 : -65536 < Int.tmod x 65536 := Int.lt_tmod_of_pos _ (by omega)
  have h2 : Int.tmod x 65536 < 65536 := Int.tmod_lt_of_pos _ (by omega)
  rw [wraps64 _ (by omega) (by omega), Int.tmod_eq_emod_of_nonneg (by omega)]
  have h3 : Int.tmod x 65536 = x - 65536 * Int.tdiv x 65536 := by have := Int.mul_tdiv_add_tmod x 65536; omega
  omega
theorem low_bit (x : Int) (j : Nat) (hj : j < 16) : (x % 65536) / 2 ^ j % 2 = x / 2 ^ j % 2 := by
  have hs : ∀ t : Nat, t < 16 → (x % 65536) / 2 ^ t % 2 = x / 2 ^ t % 2 := by
    intro t ht
    have : t = 0 ∨ t = 1 ∨ t = 2 ∨ t = 3 ∨ t = 4 ∨ t = 5 ∨ t = 6 ∨ t = 7 ∨ t = 8 ∨ t = 9 ∨ t = 10 ∨ t = 11 ∨ t = 12 ∨ t = 13 ∨ t = 14 ∨ t = 15 := by omega
    rcases this with rfl | rfl | rfl | rfl | rfl | rfl | rfl | rfl | rfl | rfl | rfl | rfl | rfl | rfl | rfl | rfl <;> omega
  exact hs j hj
/-- The bits of what is turned about. -/
theorem msk_bit (x : Int) (at_ all : Nat) : ∀ i j, (msk x at_ all i).testBit j = (decide (j < i) && decide (at_ + j < all) && FA.cond x j)
  | 0, j => by simp [msk]
  | i + 1, j => by
    have ih := msk_bit x at_ all i j
    simp only [msk]
    by_cases h : FA.cond x i = true ∧ at_ + i < all
    · rw [if_pos h, Nat.testBit_xor, ih, Nat.testBit_two_pow]
      by_cases hj : i = j
      · subst hj; simp [h.1, h.2]
      · rw [decide_eq_false hj]
        by_cases hlt : j < i
        · simp [hlt, show j < i + 1 by omega]
        · simp [hlt, show ¬ j < i + 1 by omega]
    · rw [if_neg h, ih]
      by_cases hj : j = i
      · subst hj
        simp
        intro h2
        by_cases hc : FA.cond x j = true
        · exact absurd ⟨hc, h2⟩ h
        · simpa using hc
      · by_cases hlt : j < i
        · simp [hlt, show j < i + 1 by omega]
        · simp [hlt, show ¬ j < i + 1 by omega]
theorem turned_eq (b ys : List Nat) (hb : ∀ c ∈ b, c < 256) (hy : ∀ c ∈ ys, c < 256) (p : Nat) (x : Int) (hv : val ys = val b ^^^ (2 ^ p * msk x p (8 * b.length) 16)) (i : Nat) (hi : i < 8 * b.length) :
    ((((b.getD (i / 8) 0) ^^^ (ys.getD (i / 8) 0)) / 2 ^ (i % 8)) % 2 = 1) ↔ (p ≤ i ∧ i < p + 16 ∧ FA.cond x (i - p) = true) := by
  rw [bit_test, Nat.testBit_xor, ← val_bit b i hb, ← val_bit ys i hy, hv, Nat.testBit_xor, Nat.testBit_two_pow_mul, msk_bit]
  by_cases hp : p ≤ i
  · rw [decide_eq_true hp, decide_eq_true (show p + (i - p) < 8 * b.length by omega)]
    by_cases h16 : i - p < 16
    · rw [decide_eq_true h16]
      simp [hp, show i < p + 16 by omega]
    · rw [decide_eq_false h16]
      simp [show ¬ i < p + 16 by omega]
  · rw [decide_eq_false hp]
    simp [hp]
theorem spoils_l0 (n p : Nat) (x : Int) (b ys : List Nat) (hn : n ≤ 300) (hp : p < 8 * n) (hlb : b.length = n) (hly : ys.length = n) (hb : ∀ c ∈ b, c < 256) (hy : ∀ c ∈ ys, c < 256) (HV : Aside0 (val ys = val b ^^^ (2 ^ p * msk x p (8 * n) 16))) :
    ∀ (j k i : Nat), i ≤ 8 * n → 8 * n - i = j → 2 * j + 2702 ≤ k → wherrylaw20_FrameSpoils.l0 k (ints b) x (ints ys) ((8 * n : Nat) : Int) (p : Int) (i : Int) = some true := by
  intro j
  induction j with
  | zero =>
    intro k i hi hj hk
    obtain ⟨k, rfl⟩ : ∃ q, k = q + 1 := ⟨k - 1, by omega⟩
    rw [wherrylaw20_FrameSpoils.l0, if_neg (by omega), wakes_eq _ (by omega)]
    rfl
  | succ j ih =>
    intro k i hi hj hk
    obtain ⟨k, rfl⟩ : ∃ q, k = q + 2 := ⟨k - 2, by omega⟩
    have hlt : i < 8 * n := by omega
    have next0 := ih k (i + 1) (by omega) (by omega) (by omega)
    rw [show (((i + 1 : Nat)) : Int) = (i : Int) + 1 by omega] at next0
    have next := Aside0.mk next0
    clear next0
    have e16 : wrap64 ((p : Int) + 16) = ((p + 16 : Nat) : Int) := by rw [wraps64 _ (by omega) (by omega)]; omega
    have j2 : ∀ t : Bool, (p < i → i < p + 16 → t = FA.cond x (i - p)) → wherrylaw20_FrameSpoils.j2 (k + 1) (ints b) x (ints ys) ((8 * n : Nat) : Int) (p : Int) (i : Int) t false = some true := by
      intro t ht
      rw [wherrylaw20_FrameSpoils.j2, if_neg (by decide), e16, wraps64 ((i : Int) + 1) (by omega) (by omega)]
      by_cases h1 : p < i
      · rw [if_pos (by omega)]
        by_cases h2 : i < p + 16
        · have e5 : IntKind.u64.wrap (wrap64 ((i : Int) - (p : Int))) = ((i - p : Nat) : Int) := by
            rw [wraps64 _ (by omega) (by omega), wraps_u64 _ (by omega) (by omega)]; omega
          have e6 : (Go.bits .and .i64 (shr .i64 (Int.tmod (wrap64 ((Int.tmod x 65536) + 65536)) 65536) ((i - p : Nat) : Int)) 1 == 1) = FA.cond x (i - p) := by
            rw [mod_bits, and1_any, cond_iff x (i - p) (by omega) (by omega)]
            unfold shr
            rw [Int.toNat_natCast, Nat.min_eq_left (by simp [IntKind.bits]; omega), low_bit x (i - p) (by omega)]
            rw [Bool.eq_iff_iff]
            simp
          rw [if_pos (by omega), e5, if_pos (by omega), e6, ht h1 h2, bne_self_eq_false, if_neg (by decide)]
          exact next.out
        · rw [if_neg (by omega)]; exact next.out
      · rw [if_neg (by omega)]; exact next.out
    have e1 : wrap64 (Int.tdiv (i : Int) 8) = ((i / 8 : Nat) : Int) := by
      rw [Int.tdiv_eq_ediv_of_nonneg (by omega), wraps64 _ (by omega) (by omega)]; omega
    have e3 : IntKind.u64.wrap (Int.tmod (i : Int) 8) = ((i % 8 : Nat) : Int) := by
      rw [Int.tmod_eq_emod_of_nonneg (by omega), wraps_u64 _ (by omega) (by omega)]; omega
    have g1 : rd (ints b) ((i / 8 : Nat) : Int) = ((b.getD (i / 8) 0 : Nat) : Int) := by
      rw [rd_ints b _ (by omega)]; simp [List.getD_eq_getElem?_getD, List.getElem?_eq_getElem (show i / 8 < b.length by omega)]
    have g2 : rd (ints ys) ((i / 8 : Nat) : Int) = ((ys.getD (i / 8) 0 : Nat) : Int) := by
      rw [rd_ints ys _ (by omega)]; simp [List.getD_eq_getElem?_getD, List.getElem?_eq_getElem (show i / 8 < ys.length by omega)]
    have lb : b.getD (i / 8) 0 < 256 := by
      rw [List.getD_eq_getElem?_getD, List.getElem?_eq_getElem (by omega)]; exact hb _ (List.getElem_mem _)
    have ly : ys.getD (i / 8) 0 < 256 := by
      rw [List.getD_eq_getElem?_getD, List.getElem?_eq_getElem (by omega)]; exact hy _ (List.getElem_mem _)
    have lx : b.getD (i / 8) 0 ^^^ ys.getD (i / 8) 0 < 256 := Nat.xor_lt_two_pow (n := 8) lb ly
    have T0 := Aside0.mk (turned_eq b ys hb hy p x (by rw [hlb]; exact HV.out) i (by omega))
    have eb : Go.bits .and .u8 (shr .u8 (Go.bits .xor .u8 ((b.getD (i / 8) 0 : Nat) : Int) ((ys.getD (i / 8) 0 : Nat) : Int)) ((i % 8 : Nat) : Int)) 1 = (((b.getD (i / 8) 0 ^^^ ys.getD (i / 8) 0) / 2 ^ (i % 8) % 2 : Nat) : Int) := by
      rw [xor_u8 _ _ lb ly, shr_nat _ _ _ (by simp [IntKind.bits]; omega), and1_u8 _ (Nat.lt_of_le_of_lt (Nat.div_le_self _ _) lx)]
    have hl1 := ints_length b
    have hl2 := ints_length ys
    rw [wherrylaw20_FrameSpoils.l0, e1, e3, g1, g2, eb, e16, hl1, hl2]
    clear eb g1 g2 e1 e3 e16 next
    rw [if_pos (by omega), if_pos (by omega), if_pos (by omega), if_pos (by omega), if_pos (by omega)]
    have c0 : FA.cond x 0 = true := by simp [FA.cond]
    have T := T0.out
    clear T0 lb ly lx
    generalize (b.getD (i / 8) 0 ^^^ ys.getD (i / 8) 0) / 2 ^ (i % 8) % 2 = q at T ⊢
    by_cases hq : q = 1
    · obtain ⟨t1, t2, t3⟩ := T.1 hq
      subst hq
      rw [if_pos (by rfl), if_neg (by omega), if_neg (by omega)]
      have : ((((1 : Nat) : Int)) == 1) = true := rfl
      rw [this]
      by_cases h0 : i = p
      · rw [if_pos (by omega)]
        exact j2 true (fun h => by omega)
      · rw [if_neg (by omega)]
        exact j2 true (fun _ _ => t3.symm)
    · rw [if_neg (by omega)]
      have hf : ((q : Int) == 1) = false := by rw [beq_eq_false_iff_ne]; omega
      rw [hf]
      by_cases h0 : i = p
      · exfalso
        apply hq
        rw [T, h0]
        exact ⟨by omega, by omega, by rw [Nat.sub_self]; exact c0⟩
      · rw [if_neg (by omega)]
        refine j2 false (fun h1 h2 => ?_)
        symm
        rw [← Bool.not_eq_true]
        intro hc
        exact hq (T.2 ⟨by omega, h2, hc⟩)
theorem FrameSpoils : wherrylaw20_FrameSpoils.Pure := by
  intro l at_ x _ hl w1 w2
  obtain ⟨b, rfl, hb⟩ := bytes_ints l hl
  refine ⟨8000, ?_⟩
  unfold wherrylaw20_FrameSpoils.f
  rw [ints_length]
  by_cases h300 : (b.length : Int) > 300
  · rw [if_pos h300]
  rw [if_neg h300]
  by_cases h0 : b.length = 0
  · have : b = [] := List.eq_nil_of_length_eq_zero h0
    subst this
    have e : frame_Spoil.f 8000 (ints []) at_ x = some [] := by
      unfold frame_Spoil.f bytes_Clone.f
      have hw : wrap64 (8 * ((ints []).length : Int)) = 0 := by rw [ints_length, wraps64 _ (by decide) (by decide)]; rfl
      rw [hw, if_pos (by rw [ints_length]; decide), Option.bind_some, if_pos rfl]
      rfl
    rw [e, Option.bind_some, if_pos (by rfl), if_pos (by rfl), wakes_eq _ (by omega)]
    rfl
  · obtain ⟨ys, h1, h2, h3, h4⟩ := spoil_eq 8000 (by omega) at_ x b.length (by omega) (by omega) b hb rfl
    have e8 : wrap64 (8 * (b.length : Int)) = ((8 * b.length : Nat) : Int) := by rw [wraps64 _ (by omega) (by omega)]; omega
    obtain ⟨p1, p2⟩ := place_eq at_ (8 * b.length) (by omega) (by omega)
    rw [h1, Option.bind_some, ints_length, if_pos (by omega), if_neg (by omega), e8, if_neg (by omega)]
    have t1 : -((8 * b.length : Nat) : Int) < Int.tmod at_ ((8 * b.length : Nat) : Int) := Int.lt_tmod_of_pos _ (by omega)
    have t2 : Int.tmod at_ ((8 * b.length : Nat) : Int) < ((8 * b.length : Nat) : Int) := Int.tmod_lt_of_pos _ (by omega)
    have fin : ∀ y : Int, y = ((place at_ (8 * b.length) : Nat) : Int) → wherrylaw20_FrameSpoils.j0 8000 (ints b) x (ints ys) ((8 * b.length : Nat) : Int) y = some true := by
      intro y hy
      rw [hy, wherrylaw20_FrameSpoils.j0]
      exact spoils_l0 b.length _ x b ys (by omega) p2 rfl h3 hb h2 ⟨h4⟩ (8 * b.length) 7999 0 (by omega) (by omega) (by omega)
    have ew : wrap64 (Int.tmod at_ ((8 * b.length : Nat) : Int) + ((8 * b.length : Nat) : Int)) = Int.tmod at_ ((8 * b.length : Nat) : Int) + ((8 * b.length : Nat) : Int) := wraps64 _ (by omega) (by omega)
    rw [ew] at p1 ⊢
    generalize Int.tmod at_ ((8 * b.length : Nat) : Int) = q at *
    by_cases hneg : q < 0
    · rw [if_pos hneg]
      apply fin
      rw [← p1, Int.tmod_eq_emod_of_nonneg (by omega), Int.emod_eq_of_lt (by omega) (by omega)]
    · rw [if_neg hneg]
      apply fin
      rw [← p1, Int.tmod_eq_emod_of_nonneg (by omega), Int.add_emod_right, Int.emod_eq_of_lt (by omega) (by omega)]
end Go.Proofs.Ytcomabcmjhlabaa.Pure
