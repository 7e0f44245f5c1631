/- What frame.Read and frame.Spoil come to, as plain facts. -/
import Derived.Test.YtcomabcmjhlabaaFrame
import Derived.Test.YtcomabcmjhlabaaFAx13
import Derived.Test.YtcomabcmjhlabaaFAx3
import Derived.Test.YtcomabcmjhlabaaFAx4
namespace Go.Proofs.Ytcomabcmjhlabaa.FA
open Go.RowKit Go.Proofs.YtcomabcmjhlabaaW.PrintWords Go.Proofs.YtcomabcmjhlabaaW.PrintLast Go.Proofs.YtcomabcmjhlabaaW.PrintMore Go.Proofs.Ytcomabcmjhlabaa.Crc Go.Proofs.Ytcomabcmjhlabaa.Nums

theorem wakes_eq (k : Nat) (hk : 2700 ≤ k) : wherrylaw20_wakes.f k = some true := by
  have h0 : wherrylaw20_wakes.f 2700 = some true := by decide +kernel
  have h : ∀ j, wherrylaw20_wakes.f (2700 + j) = some true := by
    intro j
    induction j with
    | zero => exact h0
    | succ j ih => exact wherrylaw20_wakes.mono (2700 + j) true ih
  have := h (k - 2700)
  rwa [show 2700 + (k - 2700) = k by omega] at this

/-- The two last bytes. -/
def tl (b : List Nat) : Nat := b.getD (b.length - 2) 0 + 256 * b.getD (b.length - 1) 0
theorem or_256 (a b : Nat) (ha : a < 256) (hb : b < 256) : Go.bits .or .i64 (a : Int) ((b : Int) * 256) = ((a + 256 * b : Nat) : Int) := by
  have h := or_i64 a (b * 256) (by omega) (by omega)
  rw [show (((b * 256 : Nat)) : Int) = (b : Int) * 256 by omega] at h
  rw [h]
  have h2 := Nat.two_pow_add_eq_or_of_lt (i := 8) (b := a) (by omega) b
  rw [Nat.or_comm, show b * 256 = 2 ^ 8 * b by omega, ← h2]
  omega
theorem rd_drop (b : List Nat) (m i : Nat) (h : m + i < b.length) : rd ((ints b).drop m) (i : Int) = ((b.getD (m + i) 0 : Nat) : Int) := by
  rw [ints_drop, rd_ints _ _ (by rw [List.length_drop]; omega)]
  simp [List.getD_eq_getElem?_getD, List.getElem?_eq_getElem h]
/-- A sum that isn't right. -/
theorem read_sum (k : Nat) (hk : 2700 ≤ k) (b : List Nat) (hb : ∀ c ∈ b, c < 256) (h1 : 9 ≤ b.length) (h2 : b.length ≤ 57) (hs : sh (b.take (b.length - 2)) ≠ tl b) : frame_Read.f (k + 1) (ints b) = some (0, 0, 0, 0, [], 6) := by
  unfold frame_Read.f
  rw [ints_length, if_neg (by omega), decide_eq_false (by omega)]
  simp only [frame_Read.j0]
  have e : wrap64 ((b.length : Int) - 2) = ((b.length - 2 : Nat) : Int) := by rw [wraps64 _ (by omega) (by omega)]; omega
  rw [if_neg (by simp), ints_length, e, if_pos (by omega), if_pos (by omega), Int.toNat_natCast, ints_take, short_eq _ (fun c hc => hb c (List.mem_of_mem_take hc)) (by rw [List.length_take]; omega) k (by omega) (by rw [List.length_take]; omega), Option.bind_some]
  have g0 := rd_drop b (b.length - 2) 0 (by omega)
  have g1 := rd_drop b (b.length - 2) 1 (by omega)
  rw [Nat.add_zero, show ((0 : Nat) : Int) = 0 from rfl] at g0
  rw [show b.length - 2 + 1 = b.length - 1 by omega, show ((1 : Nat) : Int) = 1 from rfl] at g1
  have b0 : b.getD (b.length - 2) 0 < 256 := by
    rw [List.getD_eq_getElem?_getD, List.getElem?_eq_getElem (by omega)]; exact hb _ (List.getElem_mem _)
  have b1 : b.getD (b.length - 1) 0 < 256 := by
    rw [List.getD_eq_getElem?_getD, List.getElem?_eq_getElem (by omega)]; exact hb _ (List.getElem_mem _)
  rw [if_pos (by rw [List.length_drop, ints_length]; omega), if_pos (by rw [List.length_drop, ints_length]; omega), g0, g1, wraps64 ((b.getD (b.length - 2) 0 : Nat) : Int) (by omega) (by omega), wraps64 ((b.getD (b.length - 1) 0 : Nat) : Int) (by omega) (by omega),
    wraps64 (((b.getD (b.length - 1) 0 : Nat) : Int) * 256) (by omega) (by omega), or_256 _ _ b0 b1, if_neg (fun h => hs (by unfold tl; omega))]
/-- Where the sum is right the whole text's row is the one that all such have. -/
theorem sum_row (b : List Nat) (hb : ∀ c ∈ b, c < 256) (h1 : 2 ≤ b.length) (hs : sh (b.take (b.length - 2)) = tl b) : crc 33800 65535 b = dnk 33800 16 65535 := by
  have hsh := sh_lt (b.take (b.length - 2)) (fun c hc => hb c (List.mem_of_mem_take hc))
  have b0 : b.getD (b.length - 2) 0 < 256 := by
    rw [List.getD_eq_getElem?_getD, List.getElem?_eq_getElem (by omega)]; exact hb _ (List.getElem_mem _)
  have b1 : b.getD (b.length - 1) 0 < 256 := by
    rw [List.getD_eq_getElem?_getD, List.getElem?_eq_getElem (by omega)]; exact hb _ (List.getElem_mem _)
  have e : b = b.take (b.length - 2) ++ [b.getD (b.length - 2) 0, b.getD (b.length - 1) 0] := by
    conv => lhs; rw [← List.take_append_drop (b.length - 2) b]
    congr 1
    rw [List.drop_eq_getElem_cons (by omega), List.drop_eq_getElem_cons (by omega), List.drop_of_length_le (by omega)]
    simp only [List.getD_eq_getElem?_getD, List.getElem?_eq_getElem (show b.length - 2 < b.length by omega), List.getElem?_eq_getElem (show b.length - 1 < b.length by omega), Option.getD_some]
    congr 2
    simp only [show b.length - 2 + 1 = b.length - 1 by omega]
  have ht : [b.getD (b.length - 2) 0, b.getD (b.length - 1) 0] = [sh (b.take (b.length - 2)) % 256, sh (b.take (b.length - 2)) / 256 % 256] := by
    rw [hs]
    unfold tl
    congr 1
    · omega
    · congr 1; omega
  have hv : val [b.getD (b.length - 2) 0, b.getD (b.length - 1) 0] = crc 33800 65535 (b.take (b.length - 2)) ^^^ 65535 := by
    rw [ht, tail2 _ (by omega)]; rfl
  rw [e]
  exact tail_const 33800 65535 65535 _ _ hv
theorem enc_sum (K N O S : Nat) (d : List Nat) (hd_ : ∀ c ∈ d, c < 256) : crc 33800 65535 (enc K N O S d) = dnk 33800 16 65535 := by
  have hs := sh_lt _ (hdd_bytes K N O S d hd_)
  exact tail_const 33800 65535 65535 _ _ (by rw [tail2 _ (by omega)]; rfl)

/-- What Spoil turns about. -/
def cond (x : Int) (i : Nat) : Bool := i = 0 || Go.bits .and .i64 (shr .i64 x (i : Int)) 1 = 1
def msk (x : Int) (at_ all : Nat) : Nat → Nat
  | 0 => 0
  | i + 1 => if cond x i = true ∧ at_ + i < all then msk x at_ all i ^^^ 2 ^ i else msk x at_ all i
theorem msk_lt (x : Int) (at_ all : Nat) : ∀ i, msk x at_ all i < 2 ^ i := by
  intro i
  induction i with
  | zero => exact Nat.one_pos
  | succ i ih =>
    have hp : 2 ^ i < 2 ^ (i + 1) := Nat.pow_lt_pow_right (by decide) (by omega)
    simp only [msk]
    split
    · exact Nat.xor_lt_two_pow (by omega) hp
    · omega
theorem msk_odd (x : Int) (at_ all : Nat) (h : at_ < all) : ∀ i, 1 ≤ i → msk x at_ all i % 2 = 1 := by
  intro i
  induction i with
  | zero => intro h; omega
  | succ i ih =>
    intro _
    simp only [msk]
    rcases Nat.eq_zero_or_pos i with h0 | hp
    · subst h0
      rw [if_pos ⟨by simp [cond], by omega⟩]
      simp [msk]
    · have := ih (by omega)
      split
      · rw [Nat.xor_mod_two_eq_one]
        have : 2 ^ i % 2 = 0 := by
          obtain ⟨q, rfl⟩ : ∃ q, i = q + 1 := ⟨i - 1, by omega⟩
          rw [Nat.pow_succ]; omega
        omega
      · exact this
theorem msk_end (x : Int) (at_ all i : Nat) (h : all ≤ at_ + i) : ∀ j, msk x at_ all (i + j) = msk x at_ all i := by
  intro j
  induction j with
  | zero => rfl
  | succ j ih =>
    rw [← Nat.add_assoc]
    simp only [msk]
    rw [if_neg (by omega), ih]
theorem shl_u8 (t : Nat) (ht : t < 8) : shl .u8 1 (t : Int) = ((2 ^ t : Nat) : Int) := by
  have hp : 2 ^ t ≤ 2 ^ 7 := Nat.pow_le_pow_right (by decide) (by omega)
  have hp0 : 0 < 2 ^ t := Nat.two_pow_pos t
  unfold shl
  rw [Int.toNat_natCast, show min t (IntKind.bits .u8) = t by simp [IntKind.bits]; omega, Int.one_mul, show (2 : Int) ^ t = ((2 ^ t : Nat) : Int) by simp]
  generalize 2 ^ t = p at hp hp0
  exact wraps_u8 _ (by omega) (by omega)
theorem spoil_l0 (n at_ : Nat) (x : Int) (hn : n ≤ 5000) (hat : at_ < 8 * n) (v0 : Nat) : ∀ (j k i : Nat) (xs : List Nat), i ≤ 16 → 16 - i = j → 2 * j + 2 ≤ k → (∀ c ∈ xs, c < 256) → xs.length = n → val xs = v0 ^^^ (2 ^ at_ * msk x at_ (8 * n) i) →
    ∃ ys : List Nat, frame_Spoil.l0 k at_ x (ints xs) ((8 * n : Nat) : Int) i = some (ints ys) ∧ (∀ c ∈ ys, c < 256) ∧ ys.length = n ∧ val ys = v0 ^^^ (2 ^ at_ * msk x at_ (8 * n) 16) := by
  have stop : ∀ (k i : Nat) (xs : List Nat), 1 ≤ k → i ≤ 16 → 8 * n ≤ at_ + i ∨ i = 16 → (∀ c ∈ xs, c < 256) → xs.length = n → val xs = v0 ^^^ (2 ^ at_ * msk x at_ (8 * n) i) →
      ∃ ys : List Nat, frame_Spoil.j1 k at_ x (ints xs) ((8 * n : Nat) : Int) i false = some (ints ys) ∧ (∀ c ∈ ys, c < 256) ∧ ys.length = n ∧ val ys = v0 ^^^ (2 ^ at_ * msk x at_ (8 * n) 16) := by
    intro k i xs hk hi he hx hl hv
    obtain ⟨k, rfl⟩ : ∃ q, k = q + 1 := ⟨k - 1, by omega⟩
    refine ⟨xs, ?_, hx, hl, ?_⟩
    · simp only [frame_Spoil.j1]; rw [if_neg (by simp)]
    · rcases he with he | he
      · have := msk_end x at_ (8 * n) i he (16 - i)
        rw [show i + (16 - i) = 16 by omega] at this
        rw [this]; exact hv
      · rw [← he]; exact hv
  intro j
  induction j with
  | zero =>
    intro k i xs hi hj hk hx hl hv
    obtain ⟨k, rfl⟩ : ∃ q, k = q + 1 := ⟨k - 1, by omega⟩
    simp only [frame_Spoil.l0]
    rw [if_neg (by omega)]
    exact stop k i xs (by omega) hi (Or.inr (by omega)) hx hl hv
  | succ j ih =>
    intro k i xs hi hj hk hx hl hv
    obtain ⟨k, rfl⟩ : ∃ q, k = q + 1 := ⟨k - 1, by omega⟩
    simp only [frame_Spoil.l0]
    rw [if_pos (by omega), wraps64 ((at_ : Int) + i) (by omega) (by omega)]
    by_cases hend : at_ + i < 8 * n
    · rw [decide_eq_true (by omega)]
      obtain ⟨k, rfl⟩ : ∃ q, k = q + 1 := ⟨k - 1, by omega⟩
      have e1 : wrap64 ((i : Int) + 1) = ((i + 1 : Nat) : Int) := by rw [wraps64 _ (by omega) (by omega)]; omega
      have e2 : wrap64 (Int.tdiv ((at_ : Int) + i) 8) = (((at_ + i) / 8 : Nat) : Int) := by
        rw [Int.tdiv_eq_ediv_of_nonneg (by omega), wraps64 _ (by omega) (by omega)]; omega
      have e3 : IntKind.u64.wrap (Int.tmod ((at_ : Int) + i) 8) = (((at_ + i) % 8 : Nat) : Int) := by
        rw [Int.tmod_eq_emod_of_nonneg (by omega), wraps_u64 _ (by omega) (by omega)]; omega
      have hp8 : (at_ + i) / 8 < xs.length := by omega
      have hc : xs[(at_ + i) / 8] < 256 := hx _ (List.getElem_mem _)
      have ht : 2 ^ ((at_ + i) % 8) < 2 ^ 8 := Nat.pow_lt_pow_right (by decide) (by omega)
      have turn : cond x i = true → ∃ ys : List Nat, frame_Spoil.l0 k at_ x ((ints xs).set (((at_ + i) / 8 : Nat) : Int).toNat (Go.bits .xor .u8 (rd (ints xs) (((at_ + i) / 8 : Nat) : Int)) (shl .u8 1 (((at_ + i) % 8 : Nat) : Int)))) ((8 * n : Nat) : Int) ((i + 1 : Nat) : Int) = some (ints ys) ∧
          (∀ c ∈ ys, c < 256) ∧ ys.length = n ∧ val ys = v0 ^^^ (2 ^ at_ * msk x at_ (8 * n) 16) := by
        intro hcd
        rw [rd_ints xs _ hp8, shl_u8 _ (by omega), xor_u8 _ _ hc (by omega), Int.toNat_natCast, ints_set]
        refine ih k (i + 1) _ (by omega) (by omega) (by omega) ?_ (by rw [List.length_set]; exact hl) ?_
        · intro c hc2
          rcases List.mem_or_eq_of_mem_set hc2 with h | h
          · exact hx c h
          · rw [h]; exact Nat.xor_lt_two_pow (n := 8) hc ht
        · simp only [msk]
          rw [if_pos ⟨hcd, hend⟩, val_set xs _ hp8, hv, mul_xor, ← Nat.pow_add, Nat.xor_assoc, show 8 * ((at_ + i) / 8) + (at_ + i) % 8 = at_ + i by omega]
      have stay : ¬ cond x i = true → ∃ ys : List Nat, frame_Spoil.l0 k at_ x (ints xs) ((8 * n : Nat) : Int) ((i + 1 : Nat) : Int) = some (ints ys) ∧
          (∀ c ∈ ys, c < 256) ∧ ys.length = n ∧ val ys = v0 ^^^ (2 ^ at_ * msk x at_ (8 * n) 16) := by
        intro hcd
        refine ih k (i + 1) xs (by omega) (by omega) (by omega) hx hl ?_
        simp only [msk]
        rw [if_neg (fun h => hcd h.1)]
        exact hv
      simp only [frame_Spoil.j1]
      rw [if_pos trivial, wraps64 ((at_ : Int) + i) (by omega) (by omega), e1, e2, e3, ints_length]
      by_cases h0 : i = 0
      · rw [if_pos (by omega), if_pos (by omega), if_pos (by omega), if_pos (by omega)]
        exact turn (by simp [cond, h0])
      · rw [if_neg (by omega), wraps_u64 (i : Int) (by omega) (by omega), if_pos (by omega)]
        by_cases hbit : Go.bits .and .i64 (shr .i64 x (i : Int)) 1 = 1
        · rw [if_pos hbit, if_pos (by omega), if_pos (by omega), if_pos (by omega)]
          exact turn (by simp [cond, hbit])
        · rw [if_neg hbit]
          exact stay (by simp [cond, hbit, h0])
    · rw [decide_eq_false (by omega)]
      exact stop k i xs (by omega) hi (Or.inl (by omega)) hx hl hv
/-- Where Spoil begins. -/
def place (at_ : Int) (all : Nat) : Nat := (Int.tmod (Int.tmod at_ (all : Int) + (all : Int)) (all : Int)).toNat
theorem place_eq (at_ : Int) (all : Nat) (h : 0 < all) (hs : all ≤ 100000) : Int.tmod (wrap64 (Int.tmod at_ (all : Int) + (all : Int))) (all : Int) = ((place at_ all : Nat) : Int) ∧ place at_ all < all := by
  have h1 : -(all : Int) < Int.tmod at_ (all : Int) := Int.lt_tmod_of_pos _ (by omega)
  have h2 : Int.tmod at_ (all : Int) < (all : Int) := Int.tmod_lt_of_pos _ (by omega)
  rw [wraps64 _ (by omega) (by omega)]
  have h3 : 0 ≤ Int.tmod (Int.tmod at_ (all : Int) + (all : Int)) (all : Int) := Int.tmod_nonneg _ (by omega)
  have h4 : Int.tmod (Int.tmod at_ (all : Int) + (all : Int)) (all : Int) < (all : Int) := Int.tmod_lt_of_pos _ (by omega)
  unfold place
  omega
theorem spoil_eq (k : Nat) (hk : 40 ≤ k) (at_ x : Int) (n : Nat) (hn : n ≤ 5000) (h0 : 0 < n) (b : List Nat) (hb : ∀ c ∈ b, c < 256) (hl : b.length = n) :
    ∃ ys : List Nat, frame_Spoil.f k (ints b) at_ x = some (ints ys) ∧ (∀ c ∈ ys, c < 256) ∧ ys.length = n ∧ val ys = val b ^^^ (2 ^ place at_ (8 * n) * msk x (place at_ (8 * n)) (8 * n) 16) := by
  unfold frame_Spoil.f bytes_Clone.f
  have e : wrap64 (8 * ((ints b).length : Int)) = ((8 * n : Nat) : Int) := by rw [ints_length, wraps64 _ (by omega) (by omega)]; omega
  obtain ⟨p1, p2⟩ := place_eq at_ (8 * n) (by omega) (by omega)
  rw [e, if_pos (by rw [ints_length]; omega), Option.bind_some, if_neg (by omega), p1]
  exact spoil_l0 n (place at_ (8 * n)) x hn p2 (val b) 16 k 0 b (by omega) (by omega) (by omega) hb hl (by simp [msk])
theorem spoil_twice (k : Nat) (hk : 40 ≤ k) (at_ x : Int) (b : List Nat) (hn : b.length ≤ 5000) (h0 : 0 < b.length) (hb : ∀ c ∈ b, c < 256) :
    ∃ ys : List Nat, frame_Spoil.f k (ints b) at_ x = some (ints ys) ∧ (∀ c ∈ ys, c < 256) ∧ ys.length = b.length ∧ frame_Spoil.f k (ints ys) at_ x = some (ints b) ∧ crc 33800 65535 ys ≠ crc 33800 65535 b := by
  obtain ⟨ys, h1, h2, h3, h4⟩ := spoil_eq k hk at_ x b.length hn h0 b hb rfl
  obtain ⟨zs, g1, g2, g3, g4⟩ := spoil_eq k hk at_ x b.length hn h0 ys h2 h3
  obtain ⟨p1, p2⟩ := place_eq at_ (8 * b.length) (by omega) (by omega)
  refine ⟨ys, h1, h2, h3, ?_, ?_⟩
  · rw [g1]
    have : zs = b := val_inj zs b g3 g2 hb (by rw [g4, h4, Nat.xor_assoc, Nat.xor_self, Nat.xor_zero])
    rw [this]
  · refine burst (w := 15) (D := 33800) (r := 65535) (by decide) (by decide) h3 p2 (msk_lt _ _ _ 16) ?_ h4
    have := msk_odd x (place at_ (8 * b.length)) (8 * b.length) p2 16 (by omega)
    omega

end Go.Proofs.Ytcomabcmjhlabaa.FA
