/- Of three texts of one length, mixed bit by bit, the sum is the sums mixed: for every three texts of bytes (the statement's own bound: the shortest up to 600 bytes). -/
import Derived.Test.YtfmjcogcoclhpaaSumsSumsMix
namespace Go.Proofs.Ytfmjcogcoclhpaa.Pure
open Go.RowKit Go.Proofs.Ytfmjcogcoclhpaa.PSumsMix Go.Proofs.YtfmjcogcoclhpaaW.PrintWords Go.Proofs.YtfmjcogcoclhpaaW.PrintLast Go.Proofs.Ytfmjcogcoclhpaa.Crc Go.Proofs.Ytfmjcogcoclhpaa.Nums

def mix (a b c : List Nat) : List Nat := List.zipWith (fun x y => x ^^^ y) (List.zipWith (fun x y => x ^^^ y) a b) c
theorem mix_length (a b c : List Nat) : (mix a b c).length = min (min a.length b.length) c.length := by simp [mix]
theorem mix_bytes (a b c : List Nat) (ha : ∀ x ∈ a, x < 256) (hb : ∀ x ∈ b, x < 256) (hc : ∀ x ∈ c, x < 256) : ∀ x ∈ mix a b c, x < 256 := by
  intro x hx
  obtain ⟨i, hi, rfl⟩ := List.getElem_of_mem hx
  simp only [mix, List.getElem_zipWith]
  exact Nat.xor_lt_two_pow (n := 8) (Nat.xor_lt_two_pow (n := 8) (ha _ (List.getElem_mem _)) (hb _ (List.getElem_mem _))) (hc _ (List.getElem_mem _))
theorem ones3 (w x y z : Nat) : (x ^^^ y ^^^ z) ^^^ w = (x ^^^ w) ^^^ (y ^^^ w) ^^^ (z ^^^ w) := by
  rw [xor4 x w y w, Nat.xor_self, Nat.xor_zero, Nat.xor_assoc]
theorem sh_mix (a b c : List Nat) (h1 : a.length = b.length) (h2 : b.length = c.length) : sh (mix a b c) = sh a ^^^ sh b ^^^ sh c := by
  unfold sh mix
  rw [crc_mix _ _ a b c h1 h2, ones3]
theorem lo_mix (a b c : List Nat) (h1 : a.length = b.length) (h2 : b.length = c.length) : lo (mix a b c) = lo a ^^^ lo b ^^^ lo c := by
  unfold lo mix
  rw [crc_mix _ _ a b c h1 h2, ones3]
theorem mn_eq (a b : Int) : mn a b = min a b := by unfold mn; split <;> omega
theorem take_bytes {a : List Nat} (n : Nat) (ha : ∀ x ∈ a, x < 256) : ∀ x ∈ a.take n, x < 256 := fun x hx => ha x (List.mem_of_mem_take hx)
theorem mix_l0 (a b c : List Nat) (ha : ∀ x ∈ a, x < 256) (hb : ∀ x ∈ b, x < 256) (hc : ∀ x ∈ c, x < 256) (n : Nat) (hn : n = min a.length (min b.length c.length)) (h600 : n ≤ 600) : ∀ (j k i : Nat), i ≤ n → n - i = j → j + 4000 < k →
    wherrylaw08_SumsMix.l0 k (ints a) (ints b) (ints c) n (ints ((mix a b c).take i)) i = some true := by
  have hml : (mix a b c).length = n := by rw [mix_length]; omega
  intro j
  induction j with
  | zero =>
    intro k i hi hj hk
    obtain ⟨k, rfl⟩ : ∃ m, k = m + 1 := ⟨k - 1, by omega⟩
    simp only [wherrylaw08_SumsMix.l0]
    have e : (mix a b c).take i = mix (a.take n) (b.take n) (c.take n) := by
      rw [List.take_of_length_le (by omega)]
      apply List.ext_getElem
      · rw [hml, mix_length, List.length_take, List.length_take, List.length_take]; omega
      · intro q h1 h2
        simp only [mix, List.getElem_zipWith, List.getElem_take]
    have l1 : (a.take n).length = n := by rw [List.length_take]; omega
    have l2 : (b.take n).length = n := by rw [List.length_take]; omega
    have l3 : (c.take n).length = n := by rw [List.length_take]; omega
    have la := take_bytes n ha
    have lb := take_bytes n hb
    have lc := take_bytes n hc
    have lm := mix_bytes _ _ _ la lb lc
    have lml : (mix (a.take n) (b.take n) (c.take n)).length = n := by rw [mix_length]; omega
    rw [if_neg (by omega), e, Int.toNat_natCast, ints_length, ints_length, ints_length, ints_take, ints_take, ints_take]
    rw [short_eq _ lm (by omega) _ (by omega) (by omega), Option.bind_some, if_pos (by omega), if_pos (by omega), short_eq _ la (by omega) _ (by omega) (by omega), Option.bind_some,
      if_pos (by omega), short_eq _ lb (by omega) _ (by omega) (by omega), Option.bind_some, if_pos (by omega), short_eq _ lc (by omega) _ (by omega) (by omega), Option.bind_some]
    have sa := sh_lt _ la
    have sb := sh_lt _ lb
    have sc := sh_lt _ lc
    have ta := lo_lt _ la
    have tb := lo_lt _ lb
    have tc := lo_lt _ lc
    have sab : sh (a.take n) ^^^ sh (b.take n) < 2 ^ 16 := Nat.xor_lt_two_pow sa sb
    have tab_ : lo (a.take n) ^^^ lo (b.take n) < 2 ^ 32 := Nat.xor_lt_two_pow ta tb
    rw [xor_i64 (sh (a.take n)) _ (by omega) (by omega), xor_i64 _ _ (by omega) (by omega), ← sh_mix _ _ _ (by omega) (by omega), if_pos rfl]
    rw [long_eq _ lm (by omega) _ (by omega) (by omega), Option.bind_some, long_eq _ la (by omega) _ (by omega) (by omega), Option.bind_some,
      long_eq _ lb (by omega) _ (by omega) (by omega), Option.bind_some, long_eq _ lc (by omega) _ (by omega) (by omega), Option.bind_some,
      xor_i64 (lo (a.take n)) _ (by omega) (by omega), xor_i64 _ _ (by omega) (by omega), ← lo_mix _ _ _ (by omega) (by omega), if_pos rfl, wakes_eq _ (by omega)]
    rfl
  | succ j ih =>
    intro k i hi hj hk
    obtain ⟨k, rfl⟩ : ∃ m, k = m + 1 := ⟨k - 1, by omega⟩
    simp only [wherrylaw08_SumsMix.l0]
    have h1 : i < a.length := by omega
    have h2 : i < b.length := by omega
    have h3 : i < c.length := by omega
    have hx : a[i] ^^^ b[i] < 256 := Nat.xor_lt_two_pow (n := 8) (ha _ (List.getElem_mem _)) (hb _ (List.getElem_mem _))
    rw [if_pos (by omega), if_pos (by omega), ints_length, if_pos (by omega), ints_length, if_pos (by omega), ints_length, if_pos (by omega), ints_length, if_pos (by rw [List.length_take]; omega)]
    rw [rd_ints a i h1, rd_ints b i h2, rd_ints c i h3, xor_u8 a[i] b[i] (ha _ (List.getElem_mem _)) (hb _ (List.getElem_mem _)), xor_u8 _ _ hx (hc _ (List.getElem_mem _)), wraps64 _ (by omega) (by omega)]
    have e : ints ((mix a b c).take i) ++ [((a[i] ^^^ b[i] ^^^ c[i] : Nat) : Int)] = ints ((mix a b c).take (i + 1)) := by
      rw [List.take_succ_eq_append_getElem (by omega), ← ints_append]
      simp only [mix, List.getElem_zipWith]
      rfl
    rw [e]
    exact ih k (i + 1) (by omega) (by omega) (by omega)
theorem SumsMix : wherrylaw08_SumsMix.Pure := by
  intro l0 l1 l2 _ _ hb0 _ _ hb1 _ _ hb2
  obtain ⟨a, rfl, ha⟩ := bytes_ints l0 hb0
  obtain ⟨b, rfl, hb⟩ := bytes_ints l1 hb1
  obtain ⟨c, rfl, hc⟩ := bytes_ints l2 hb2
  refine ⟨5000, ?_⟩
  unfold wherrylaw08_SumsMix.f
  simp only [ints_length, mn_eq]
  by_cases h : min (a.length : Int) (min (b.length : Int) (c.length : Int)) > 600
  · rw [if_pos h]
  rw [if_neg h, show min (a.length : Int) (min (b.length : Int) (c.length : Int)) = ((min a.length (min b.length c.length) : Nat) : Int) by omega]
  exact mix_l0 a b c ha hb hc _ rfl (by omega) _ 5000 0 (by omega) rfl (by omega)

end Go.Proofs.Ytfmjcogcoclhpaa.Pure
