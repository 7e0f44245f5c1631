/- With its own sum behind it, the lowest byte first, any text has one sum: for every two texts of bytes (the statement's own bound: up to 600 bytes each). -/
import Derived.Test.YtfmjcogcoclhpaaSumsSumsTail
namespace Go.Proofs.Ytfmjcogcoclhpaa.Pure
open Go.RowKit Go.Proofs.Ytfmjcogcoclhpaa.PSumsTail Go.Proofs.YtfmjcogcoclhpaaW.PrintWords Go.Proofs.YtfmjcogcoclhpaaW.PrintLast Go.Proofs.Ytfmjcogcoclhpaa.Crc Go.Proofs.Ytfmjcogcoclhpaa.Nums

theorem twin_eq (bs : List Nat) (h : bs.length < 140737488355328) : wherrykeep_Twin.f (ints bs) = some (ints bs) := by
  unfold wherrykeep_Twin.f
  rw [if_pos (by rw [ints_length, List.length_nil, Nat.zero_add]; exact h)]
  rfl
theorem tail2 (s : Nat) (h : s < 65536) : val [s % 256, s / 256 % 256] = s := by
  have h1 := split8 s
  simp only [val]
  rw [Nat.mul_zero, Nat.xor_zero, Nat.mod_eq_of_lt (show s / 256 < 256 by omega), Nat.xor_comm]
  exact h1.symm
theorem tail4 (s : Nat) (h : s < 4294967296) : val [s % 256, s / 256 % 256, s / 65536 % 256, s / 16777216 % 256] = s := by
  have h1 := split8 s
  have h2 := split8 (s / 256)
  have h3 := split8 (s / 65536)
  rw [Nat.div_div_eq_div_mul] at h2 h3
  simp only [val]
  rw [Nat.mul_zero, Nat.xor_zero, Nat.mod_eq_of_lt (show s / 16777216 < 256 by omega), Nat.xor_comm (s / 65536 % 256), ← h3, Nat.xor_comm (s / 256 % 256), ← h2, Nat.xor_comm]
  exact h1.symm
theorem cast2 (s : Nat) : ([((s : Nat) : Int) % 256, ((s : Nat) : Int) / 256 % 256] : List Int) = ints [s % 256, s / 256 % 256] := by
  simp [ints]
theorem cast4 (s : Nat) : ([((s : Nat) : Int) % 256, ((s : Nat) : Int) / 256 % 256, ((s : Nat) : Int) / 65536 % 256, ((s : Nat) : Int) / 16777216 % 256] : List Int) = ints [s % 256, s / 256 % 256, s / 65536 % 256, s / 16777216 % 256] := by
  simp [ints]
theorem bytes2 (s : Nat) : ∀ c ∈ [s % 256, s / 256 % 256], c < 256 := by
  intro c hc
  simp at hc
  omega
theorem bytes4 (s : Nat) : ∀ c ∈ [s % 256, s / 256 % 256, s / 65536 % 256, s / 16777216 % 256], c < 256 := by
  intro c hc
  simp at hc
  omega
theorem bytes_app {a b : List Nat} (ha : ∀ c ∈ a, c < 256) (hb : ∀ c ∈ b, c < 256) : ∀ c ∈ a ++ b, c < 256 := by
  intro c hc
  rcases List.mem_append.1 hc with h | h
  · exact ha c h
  · exact hb c h
theorem sh_tail (a : List Nat) (ha : ∀ c ∈ a, c < 256) : sh (a ++ [sh a % 256, sh a / 256 % 256]) = dnk 33800 16 65535 ^^^ 65535 := by
  have hs := sh_lt a ha
  have ht : val [sh a % 256, sh a / 256 % 256] = crc 33800 65535 a ^^^ 65535 := by rw [tail2 _ (by omega)]; rfl
  have := tail_const 33800 65535 65535 a _ ht
  rw [sh, this]
  rfl
theorem lo_tail (a : List Nat) (ha : ∀ c ∈ a, c < 256) : lo (a ++ [lo a % 256, lo a / 256 % 256, lo a / 65536 % 256, lo a / 16777216 % 256]) = dnk 3988292384 32 4294967295 ^^^ 4294967295 := by
  have hs := lo_lt a ha
  have ht : val [lo a % 256, lo a / 256 % 256, lo a / 65536 % 256, lo a / 16777216 % 256] = crc 3988292384 4294967295 a ^^^ 4294967295 := by rw [tail4 _ (by omega)]; rfl
  have := tail_const 3988292384 4294967295 4294967295 a _ ht
  rw [lo, this]
  rfl

theorem SumsTail : wherrylaw08_SumsTail.Pure := by
  intro l0 l1 _ _ hb0 _ _ hb1
  obtain ⟨a, rfl, ha⟩ := bytes_ints l0 hb0
  obtain ⟨b, rfl, hb⟩ := bytes_ints l1 hb1
  refine ⟨4001, ?_⟩
  unfold wherrylaw08_SumsTail.f
  simp only [ints_length]
  by_cases h0 : (a.length : Int) > 600
  · rw [if_pos h0]
    simp only [wherrylaw08_SumsTail.j0]
    rfl
  rw [if_neg h0]
  by_cases h1 : (b.length : Int) > 600
  · rw [decide_eq_true h1]
    simp only [wherrylaw08_SumsTail.j0]
    rfl
  rw [decide_eq_false h1]
  have la : a.length ≤ 600 := by omega
  have lb : b.length ≤ 600 := by omega
  simp only [wherrylaw08_SumsTail.j0]
  rw [if_neg (by simp), short_eq a ha (by omega) _ (by omega) (by omega), Option.bind_some, short_eq b hb (by omega) _ (by omega) (by omega), Option.bind_some,
    long_eq a ha (by omega) _ (by omega) (by omega), Option.bind_some, long_eq b hb (by omega) _ (by omega) (by omega), Option.bind_some, twin_eq a (by omega), Option.bind_some, twin_eq b (by omega)]
  simp only [Option.bind_some, cast2, cast4, ints_append, ints_length, List.length_cons, List.length_nil]
  rw [if_pos (by omega), short_eq _ (bytes_app ha (bytes2 _)) (by simp; omega) _ (by omega) (by simp; omega), Option.bind_some, if_pos (by omega), short_eq _ (bytes_app hb (bytes2 _)) (by simp; omega) _ (by omega) (by simp; omega), Option.bind_some,
    if_pos (by omega), long_eq _ (bytes_app ha (bytes4 _)) (by simp; omega) _ (by omega) (by simp; omega), Option.bind_some, if_pos (by omega), long_eq _ (bytes_app hb (bytes4 _)) (by simp; omega) _ (by omega) (by simp; omega), Option.bind_some,
    sh_tail a ha, sh_tail b hb, lo_tail a ha, lo_tail b hb, if_pos rfl, if_pos rfl, wakes_eq _ (by omega)]
  rfl

end Go.Proofs.Ytfmjcogcoclhpaa.Pure
