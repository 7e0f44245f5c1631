/- What the printed functions of package sums come to, as numbers. -/
import Derived.Test.YtcomabcmjhlabaaFAx2
import Derived.Test.YtcomabcmjhlabaaFAx4
import Derived.Test.YtcomabcmjhlabaaFAx6
import Derived.Test.YtcomabcmjhlabaaCrc
import Derived.Test.YtcomabcmjhlabaaNums
namespace Go.Proofs.Ytcomabcmjhlabaa.FA
open Go.RowKit Go.Proofs.YtcomabcmjhlabaaW.PrintWords Go.Proofs.YtcomabcmjhlabaaW.PrintLast Go.Proofs.YtcomabcmjhlabaaW.PrintMore Go.Proofs.Ytcomabcmjhlabaa.Crc Go.Proofs.Ytcomabcmjhlabaa.Nums

theorem down_eq (r D : Nat) (hr : r < 2 ^ 64) (hD : D < 2 ^ 64) : sums_down.f r D = some ((dn D r : Nat) : Int) := by
  unfold sums_down.f dn
  rw [and1_u64 r hr]
  have e : ((r : Int) / 2) = ((r / 2 : Nat) : Int) := by omega
  rw [e]
  by_cases h : r % 2 = 1
  · rw [if_pos (by omega), if_pos h, xor_u64 _ _ (by omega) hD]
  · rw [if_neg (by omega), if_neg h]
theorem ones_eq (w : Nat) (hw : w ≤ 63) : sums_ones.f w = some ((2 ^ w - 1 : Nat) : Int) := by
  unfold sums_ones.f
  rw [wraps_u64 w (by omega) (by omega), if_pos (by omega)]
  have hp : 2 ^ w < 2 ^ 64 := Nat.pow_lt_pow_right (by decide) (by omega)
  have hp0 : 0 < 2 ^ w := Nat.two_pow_pos w
  have e : (2 : Int) ^ w = ((2 ^ w : Nat) : Int) := by simp
  unfold shl
  rw [Int.toNat_natCast, show min w (IntKind.bits .u64) = w by simp [IntKind.bits]; omega, Int.one_mul, e, wraps_u64 ((2 ^ w : Nat) : Int) (by omega) (by omega), wraps_u64 _ (by omega) (by omega)]
  congr 1
  omega
def tab (D i : Nat) : List Nat := (List.range 256).map fun t => if t < i then dnk D 8 t else 0
theorem tab_length (D i : Nat) : (tab D i).length = 256 := by simp [tab]
theorem tab_set (D i : Nat) : (tab D i).set i (dnk D 8 i) = tab D (i + 1) := by
  apply List.ext_getElem
  · simp [tab]
  · intro j h1 h2
    simp only [tab, List.getElem_set, List.getElem_map, List.getElem_range]
    by_cases h : i = j
    · subst h; simp
    · rw [if_neg h]
      by_cases h3 : j < i
      · rw [if_pos h3, if_pos (by omega)]
      · rw [if_neg h3, if_neg (by omega)]
theorem table_l1 (D : Nat) (hD : D < 2 ^ 64) (xs : List Int) (i : Nat) (hi : i < 256) (hx : xs.length = 256) (y : Int) (k : Nat) : ∀ (j r : Nat), j ≤ 8 → r < 2 ^ 64 →
    sums_table.l1 (k + j + 1) D xs i r y i ((8 - j : Nat) : Int) = sums_table.l0 k D (xs.set i ((dnk D j r : Nat) : Int)) y ((i + 1 : Nat) : Int) := by
  intro j
  induction j with
  | zero =>
    intro r _ hr
    simp only [sums_table.l1]
    rw [if_neg (by omega), if_pos (by omega), if_pos (by omega), wraps64 _ (by omega) (by omega)]
    simp only [Int.toNat_natCast, dnk]
    rfl
  | succ j ih =>
    intro r hj hr
    obtain ⟨m, hm⟩ : ∃ m, k + j + 1 = m := ⟨_, rfl⟩
    rw [show k + (j + 1) + 1 = m + 1 by omega]
    simp only [sums_table.l1]
    rw [if_pos (by omega), down_eq r D hr hD, Option.bind_some, wraps64 _ (by omega) (by omega)]
    have e : ((8 - (j + 1) : Nat) : Int) + 1 = ((8 - j : Nat) : Int) := by omega
    rw [e, ← hm, ih _ (by omega) (dn_lt hD hr)]
    rfl
theorem table_l0 (D : Nat) (hD : D < 2 ^ 64) (k : Nat) : ∀ (j : Nat), j ≤ 256 →
    sums_table.l0 (10 * j + 1 + k) D (ints (tab D (256 - j))) 256 ((256 - j : Nat) : Int) = some (ints (tab D 256)) := by
  intro j
  induction j with
  | zero =>
    intro _
    rw [show 10 * 0 + 1 + k = k + 1 by omega]
    simp only [sums_table.l0]
    rw [if_neg (by omega)]
  | succ j ih =>
    intro hj
    obtain ⟨m, hm⟩ : ∃ m, 10 * j + 1 + k + 8 + 1 = m := ⟨_, rfl⟩
    rw [show 10 * (j + 1) + 1 + k = m + 1 by omega]
    simp only [sums_table.l0]
    rw [if_pos (by omega), wraps_u64 _ (by omega) (by omega)]
    have h := table_l1 D hD (ints (tab D (256 - (j + 1)))) (256 - (j + 1)) (by omega) (by rw [ints_length, tab_length]) 256 (10 * j + 1 + k) 8 (256 - (j + 1)) (by omega) (by omega)
    rw [show ((8 - 8 : Nat) : Int) = 0 from rfl] at h
    rw [← hm, h, ints_set, tab_set, show 256 - (j + 1) + 1 = 256 - j by omega]
    exact ih (by omega)
theorem table_eq (D : Nat) (hD : D < 2 ^ 64) (k : Nat) (hk : 2561 ≤ k) : sums_table.f k D = some (ints (tab D 256)) := by
  unfold sums_table.f
  have h := table_l0 D hD (k - 2561) 256 (by omega)
  rw [show 10 * 256 + 1 + (k - 2561) = k by omega] at h
  have e : (List.replicate 256 0 : List Int) = ints (tab D (256 - 256)) := by
    apply List.ext_getElem
    · rw [List.length_replicate, ints_length, tab_length]
    · intro i h1 h2
      simp only [List.getElem_replicate, ints, tab, List.getElem_map, List.getElem_range]
      rw [if_neg (by omega)]; rfl
  rw [if_pos (by decide), Option.bind_some, e, ints_length, tab_length]
  exact h
theorem run_l0 (D w : Nat) (hw8 : 8 ≤ w) (hw : w ≤ 32) (hD : D < 2 ^ w) (bs : List Nat) (hb : ∀ c ∈ bs, c < 256) (hn : bs.length < 2 ^ 62) : ∀ (j k i r : Nat), i ≤ bs.length → bs.length - i = j → j < k → r < 2 ^ w →
    sums_run.l0 k w (ints (tab D 256)) r (ints bs) ((bs.length : Nat) : Int) i = some ((crc D r (bs.drop i) ^^^ (2 ^ w - 1) : Nat) : Int) := by
  have hp : 2 ^ w ≤ 2 ^ 32 := Nat.pow_le_pow_right (by decide) hw
  have hp0 : 0 < 2 ^ w := Nat.two_pow_pos w
  have hp8 : 2 ^ 8 ≤ 2 ^ w := Nat.pow_le_pow_right (by decide) hw8
  intro j
  induction j with
  | zero =>
    intro k i r hi hj hk hr
    obtain ⟨k, rfl⟩ : ∃ m, k = m + 1 := ⟨k - 1, by omega⟩
    simp only [sums_run.l0]
    have hx : r ^^^ (2 ^ w - 1) < 2 ^ w := Nat.xor_lt_two_pow hr (by omega)
    rw [if_neg (by omega), ones_eq w (by omega), Option.bind_some, xor_u64 _ _ (by omega) (by omega), wraps64 _ (by omega) (by omega), List.drop_of_length_le (by omega), crc_nil]
  | succ j ih =>
    intro k i r hi hj hk hr
    obtain ⟨k, rfl⟩ : ∃ m, k = m + 1 := ⟨k - 1, by omega⟩
    have hlt : i < bs.length := by omega
    have hc : bs[i] < 256 := hb _ (List.getElem_mem hlt)
    have hm : (r % 256) ^^^ bs[i] < 256 := Nat.xor_lt_two_pow (n := 8) (by omega) hc
    simp only [sums_run.l0]
    have e1 : ((r : Int) % 256) = ((r % 256 : Nat) : Int) := by omega
    have e2 : ((r : Int) / 256) = ((r / 256 : Nat) : Int) := by omega
    rw [if_pos (by omega), if_pos (by omega), ints_length, if_pos (by omega), rd_ints bs i hlt, e1, xor_u8 _ _ (by omega) hc, if_pos (by omega), ints_length, tab_length, if_pos (by omega),
      rd_ints _ _ (by rw [tab_length]; exact hm), e2, wraps64 _ (by omega) (by omega)]
    have e3 : (tab D 256)[(r % 256) ^^^ bs[i]]'(by rw [tab_length]; exact hm) = dnk D 8 ((r % 256) ^^^ bs[i]) := by
      simp only [tab, List.getElem_map, List.getElem_range]
      rw [if_pos hm]
    have hd : dnk D 8 (r % 256 ^^^ bs[i]) < 2 ^ w := dnk_lt hD _ _ (by omega)
    rw [e3, xor_u64 _ _ (by omega) (by omega), ← table, show (i : Int) + 1 = ((i + 1 : Nat) : Int) by omega]
    rw [ih k (i + 1) _ (by omega) (by omega) (by omega) (dnk_lt hD _ _ (Nat.xor_lt_two_pow hr (by omega)))]
    rw [List.drop_eq_getElem_cons hlt, crc_cons]
theorem run_eq (D w : Nat) (hw8 : 8 ≤ w) (hw : w ≤ 32) (hD : D < 2 ^ w) (bs : List Nat) (hb : ∀ c ∈ bs, c < 256) (hn : bs.length < 2 ^ 62) (k : Nat) (hk : 2561 ≤ k) (hk2 : bs.length < k) :
    sums_run.f k (ints bs) w D = some ((crc D (2 ^ w - 1) bs ^^^ (2 ^ w - 1) : Nat) : Int) := by
  have hp : 2 ^ w ≤ 2 ^ 32 := Nat.pow_le_pow_right (by decide) hw
  have hp0 : 0 < 2 ^ w := Nat.two_pow_pos w
  unfold sums_run.f
  rw [table_eq D (by omega) k hk, Option.bind_some, ones_eq w (by omega), Option.bind_some, ints_length]
  have h := run_l0 D w hw8 hw hD bs hb hn bs.length k 0 (2 ^ w - 1) (by omega) (by omega) hk2 (by omega)
  rw [List.drop_zero] at h
  exact h
def sh (bs : List Nat) : Nat := crc 33800 65535 bs ^^^ 65535
def lo (bs : List Nat) : Nat := crc 3988292384 4294967295 bs ^^^ 4294967295
theorem crc16_lt (bs : List Nat) (hb : ∀ c ∈ bs, c < 256) : crc 33800 65535 bs < 2 ^ 16 := crc_lt (w := 16) (by decide) (by decide) bs hb _ (by decide)
theorem crc32_lt (bs : List Nat) (hb : ∀ c ∈ bs, c < 256) : crc 3988292384 4294967295 bs < 2 ^ 32 := crc_lt (w := 32) (by decide) (by decide) bs hb _ (by decide)
theorem sh_lt (bs : List Nat) (hb : ∀ c ∈ bs, c < 256) : sh bs < 2 ^ 16 := Nat.xor_lt_two_pow (crc16_lt bs hb) (by decide)
theorem lo_lt (bs : List Nat) (hb : ∀ c ∈ bs, c < 256) : lo bs < 2 ^ 32 := Nat.xor_lt_two_pow (crc32_lt bs hb) (by decide)
theorem short_eq (bs : List Nat) (hb : ∀ c ∈ bs, c < 256) (hn : bs.length < 2 ^ 62) (k : Nat) (hk : 2561 ≤ k) (hk2 : bs.length < k) : sums_Short.f k (ints bs) = some ((sh bs : Nat) : Int) := by
  unfold sums_Short.f
  have h := run_eq 33800 16 (by decide) (by decide) (by decide) bs hb hn k hk hk2
  rw [show ((16 : Nat) : Int) = 16 from rfl, show ((33800 : Nat) : Int) = 33800 from rfl] at h
  rw [h]; rfl
theorem twin_eq (bs : List Nat) (h : bs.length < 140737488355328) : wherrykeep_Twin.f (ints bs) = some (ints bs) := by
  unfold wherrykeep_Twin.f
  rw [if_pos (by rw [ints_length, List.length_nil, Nat.zero_add]; exact h)]
  rfl
theorem tail2 (s : Nat) (h : s < 65536) : val [s % 256, s / 256 % 256] = s := by
  have h1 := split8 s
  simp only [val]
  rw [Nat.mul_zero, Nat.xor_zero, Nat.mod_eq_of_lt (show s / 256 < 256 by omega), Nat.xor_comm]
  exact h1.symm
theorem tail4 (s : Nat) (h : s < 4294967296) : val [s % 256, s / 256 % 256, s / 65536 % 256, s / 16777216 % 256] = s := by
  have h1 := split8 s
  have h2 := split8 (s / 256)
  have h3 := split8 (s / 65536)
  rw [Nat.div_div_eq_div_mul] at h2 h3
  simp only [val]
  rw [Nat.mul_zero, Nat.xor_zero, Nat.mod_eq_of_lt (show s / 16777216 < 256 by omega), Nat.xor_comm (s / 65536 % 256), ← h3, Nat.xor_comm (s / 256 % 256), ← h2, Nat.xor_comm]
  exact h1.symm
theorem cast2 (s : Nat) : ([((s : Nat) : Int) % 256, ((s : Nat) : Int) / 256 % 256] : List Int) = ints [s % 256, s / 256 % 256] := by
  simp [ints]
theorem cast4 (s : Nat) : ([((s : Nat) : Int) % 256, ((s : Nat) : Int) / 256 % 256, ((s : Nat) : Int) / 65536 % 256, ((s : Nat) : Int) / 16777216 % 256] : List Int) = ints [s % 256, s / 256 % 256, s / 65536 % 256, s / 16777216 % 256] := by
  simp [ints]
theorem bytes2 (s : Nat) : ∀ c ∈ [s % 256, s / 256 % 256], c < 256 := by
  intro c hc
  simp at hc
  omega
theorem bytes4 (s : Nat) : ∀ c ∈ [s % 256, s / 256 % 256, s / 65536 % 256, s / 16777216 % 256], c < 256 := by
  intro c hc
  simp at hc
  omega
theorem bytes_app {a b : List Nat} (ha : ∀ c ∈ a, c < 256) (hb : ∀ c ∈ b, c < 256) : ∀ c ∈ a ++ b, c < 256 := by
  intro c hc
  rcases List.mem_append.1 hc with h | h
  · exact ha c h
  · exact hb c h
theorem sh_tail (a : List Nat) (ha : ∀ c ∈ a, c < 256) : sh (a ++ [sh a % 256, sh a / 256 % 256]) = dnk 33800 16 65535 ^^^ 65535 := by
  have hs := sh_lt a ha
  have ht : val [sh a % 256, sh a / 256 % 256] = crc 33800 65535 a ^^^ 65535 := by rw [tail2 _ (by omega)]; rfl
  have := tail_const 33800 65535 65535 a _ ht
  rw [sh, this]
  rfl
theorem lo_tail (a : List Nat) (ha : ∀ c ∈ a, c < 256) : lo (a ++ [lo a % 256, lo a / 256 % 256, lo a / 65536 % 256, lo a / 16777216 % 256]) = dnk 3988292384 32 4294967295 ^^^ 4294967295 := by
  have hs := lo_lt a ha
  have ht : val [lo a % 256, lo a / 256 % 256, lo a / 65536 % 256, lo a / 16777216 % 256] = crc 3988292384 4294967295 a ^^^ 4294967295 := by rw [tail4 _ (by omega)]; rfl
  have := tail_const 3988292384 4294967295 4294967295 a _ ht
  rw [lo, this]
  rfl

theorem keep_bytes_l0 (xs ys : List Int) (hl : xs.length = ys.length) (hn : xs.length < 2 ^ 62) : ∀ (j k i : Nat), i ≤ xs.length → xs.length - i = j → j < k →
    wherrykeep_Bytes.l0 k xs ys i = some (decide (xs.drop i = ys.drop i)) := by
  intro j
  induction j with
  | zero =>
    intro k i hi hj hk
    obtain ⟨k, rfl⟩ : ∃ m, k = m + 1 := ⟨k - 1, by omega⟩
    simp only [wherrykeep_Bytes.l0]
    rw [if_neg (by omega), List.drop_of_length_le (by omega), List.drop_of_length_le (by omega)]
    rfl
  | succ j ih =>
    intro k i hi hj hk
    obtain ⟨k, rfl⟩ : ∃ m, k = m + 1 := ⟨k - 1, by omega⟩
    simp only [wherrykeep_Bytes.l0]
    have h1 : i < xs.length := by omega
    have h2 : i < ys.length := by omega
    have e1 : rd xs (i : Int) = xs[i] := by simp [rd, h1]
    have e2 : rd ys (i : Int) = ys[i] := by simp [rd, h2]
    rw [if_pos (by omega), if_pos (by omega), if_pos (by omega), e1, e2, List.drop_eq_getElem_cons h1, List.drop_eq_getElem_cons h2]
    by_cases h : xs[i] = ys[i]
    · rw [if_pos h, wraps64 _ (by omega) (by omega), show (i : Int) + 1 = ((i + 1 : Nat) : Int) by omega, ih k (i + 1) (by omega) (by omega) (by omega)]
      congr 1
      exact decide_eq_decide.2 ⟨fun e => by rw [h, e], fun e => (List.cons.inj e).2⟩
    · rw [if_neg h]
      congr 1
      symm
      exact decide_eq_false (fun e => h (List.cons.inj e).1)
theorem keep_bytes (xs ys : List Int) (hn : xs.length < 2 ^ 62) (k : Nat) (hk : xs.length < k) : wherrykeep_Bytes.f k xs ys = some (decide (xs = ys)) := by
  unfold wherrykeep_Bytes.f
  by_cases h : xs.length = ys.length
  · rw [if_pos (by omega)]
    have := keep_bytes_l0 xs ys h hn xs.length k 0 (by omega) (by omega) hk
    rw [List.drop_zero, List.drop_zero] at this
    exact this
  · rw [if_neg (by omega)]
    congr 1
    symm
    exact decide_eq_false (fun e => h (by rw [e]))

end Go.Proofs.Ytcomabcmjhlabaa.FA
