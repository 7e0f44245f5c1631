/- The sum of a text and one byte hangs on the text's sum and the byte alone: for every three texts of bytes (the statement's own bound: up to 600 bytes each). -/
import Derived.Test.YtfmjcogcoclhpaaSumsSumsNext
namespace Go.Proofs.Ytfmjcogcoclhpaa.Pure
open Go.RowKit Go.Proofs.Ytfmjcogcoclhpaa.PSumsNext Go.Proofs.YtfmjcogcoclhpaaW.PrintWords Go.Proofs.YtfmjcogcoclhpaaW.PrintLast Go.Proofs.Ytfmjcogcoclhpaa.Crc Go.Proofs.Ytfmjcogcoclhpaa.Nums

theorem lo_app (a c : List Nat) (ha : ∀ x ∈ a, x < 256) : lo ((a ++ [lo a % 256, lo a / 256 % 256, lo a / 65536 % 256, lo a / 16777216 % 256]) ++ c) = crc 3988292384 (dnk 3988292384 32 4294967295) c ^^^ 4294967295 := by
  have hs := lo_lt a ha
  have ht : val [lo a % 256, lo a / 256 % 256, lo a / 65536 % 256, lo a / 16777216 % 256] = crc 3988292384 4294967295 a ^^^ 4294967295 := by rw [tail4 _ (by omega)]; rfl
  have := tail_const 3988292384 4294967295 4294967295 a _ ht
  rw [lo, crc_append, this]
  rfl
theorem SumsNext : wherrylaw08_SumsNext.Pure := by
  intro l0 l1 l2 _ _ hb0 _ _ hb1 _ _ hb2
  obtain ⟨a, rfl, ha⟩ := bytes_ints l0 hb0
  obtain ⟨b, rfl, hb⟩ := bytes_ints l1 hb1
  obtain ⟨c, rfl, hc⟩ := bytes_ints l2 hb2
  refine ⟨4001, ?_⟩
  unfold wherrylaw08_SumsNext.f
  simp only [ints_length]
  by_cases h0 : (a.length : Int) > 600
  · rw [if_pos h0]
    simp only [wherrylaw08_SumsNext.j0]
    rfl
  rw [if_neg h0]
  by_cases h1 : (b.length : Int) > 600
  · rw [if_pos h1]
    simp only [wherrylaw08_SumsNext.j0]
    rfl
  rw [if_neg h1]
  by_cases h2 : (c.length : Int) > 600
  · rw [decide_eq_true h2]
    simp only [wherrylaw08_SumsNext.j0]
    rfl
  rw [decide_eq_false h2]
  have la : a.length ≤ 600 := by omega
  have lb : b.length ≤ 600 := by omega
  have lc : c.length ≤ 600 := by omega
  simp only [wherrylaw08_SumsNext.j0]
  rw [if_neg (by simp), long_eq a ha (by omega) _ (by omega) (by omega), Option.bind_some, long_eq b hb (by omega) _ (by omega) (by omega), Option.bind_some, twin_eq a (by omega), Option.bind_some, twin_eq b (by omega)]
  simp only [Option.bind_some, cast4, ints_append, ints_length, List.length_cons, List.length_nil, List.length_append]
  rw [if_pos (by omega), if_pos (by omega), if_pos (by omega), long_eq _ (bytes_app (bytes_app ha (bytes4 _)) hc) (by simp; omega) _ (by omega) (by simp; omega), Option.bind_some,
    if_pos (by omega), long_eq _ (bytes_app (bytes_app hb (bytes4 _)) hc) (by simp; omega) _ (by omega) (by simp; omega), Option.bind_some, lo_app a c ha, lo_app b c hb, if_pos rfl, wakes_eq _ (by omega)]
  rfl

end Go.Proofs.Ytfmjcogcoclhpaa.Pure
