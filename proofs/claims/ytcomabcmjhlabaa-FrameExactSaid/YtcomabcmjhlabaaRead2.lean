/- frame.Read whole, as plain facts: what is read is just what was written. -/
import Derived.Test.YtcomabcmjhlabaaRead
import Derived.Lib.Bytes
namespace Go.Proofs.Ytcomabcmjhlabaa.FA
open Go.RowKit Go.Proofs.YtcomabcmjhlabaaW.PrintWords Go.Proofs.YtcomabcmjhlabaaW.PrintLast Go.Proofs.YtcomabcmjhlabaaW.PrintMore Go.Proofs.Ytcomabcmjhlabaa.Crc Go.Proofs.Ytcomabcmjhlabaa.Nums

theorem byte_inj {x y : Nat} (hx : x < 256) (hy : y < 256) : (UInt8.ofNat (x : Int).toNat == UInt8.ofNat (y : Int).toNat) = (x == y) := by
  by_cases h : x = y
  · subst h; simp
  · have : UInt8.ofNat (x : Int).toNat ≠ UInt8.ofNat (y : Int).toNat := by
      intro e
      have := congrArg UInt8.toNat e
      simp at this
      omega
    rw [beq_eq_false_iff_ne.2 h, beq_eq_false_iff_ne.2 this]
theorem bytes_beq : ∀ (a b : List Nat), (∀ c ∈ a, c < 256) → (∀ c ∈ b, c < 256) → (Lib.bytesOf (ints a) == Lib.bytesOf (ints b)) = (a == b)
  | [], [], _, _ => rfl
  | [], _ :: _, _, _ => rfl
  | _ :: _, [], _, _ => rfl
  | x :: a, y :: b, ha, hb => by
    have ih := bytes_beq a b (fun z hz => ha z (List.mem_cons_of_mem _ hz)) (fun z hz => hb z (List.mem_cons_of_mem _ hz))
    simp only [Lib.bytesOf, ints, List.map_cons, List.cons_beq_cons] at ih ⊢
    rw [ih, byte_inj (ha x List.mem_cons_self) (hb y List.mem_cons_self)]
theorem equal_eq (a b : List Nat) (ha : ∀ c ∈ a, c < 256) (hb : ∀ c ∈ b, c < 256) : bytes_Equal.f (ints a) (ints b) = some (a == b) := by
  unfold bytes_Equal.f
  rw [Lib.strOfNums_toList, Lib.strOfNums_toList, bytes_beq a b ha hb]
theorem or_num (a b : Nat) (ha : a < 256) (hb : b < 256) : Go.bits .or .i64 (wrap64 (wrap64 (a : Int) * 256)) (wrap64 (b : Int)) = ((256 * a + b : Nat) : Int) := by
  rw [wraps64 (a : Int) (by omega) (by omega), wraps64 (b : Int) (by omega) (by omega), wraps64 _ (by omega) (by omega)]
  have h := or_i64 (a * 256) b (by omega) (by omega)
  rw [show (((a * 256 : Nat)) : Int) = (a : Int) * 256 by omega] at h
  rw [h]
  have h2 := Nat.two_pow_add_eq_or_of_lt (i := 8) (b := b) (by omega) a
  rw [show a * 256 = 2 ^ 8 * a by omega, ← h2]
theorem rd_get (b : List Nat) (i : Nat) (h : i < b.length) : rd (ints b) (i : Int) = ((b.getD i 0 : Nat) : Int) := by
  rw [rd_ints b i h]
  simp [List.getD_eq_getElem?_getD, List.getElem?_eq_getElem h]
theorem get_lt (b : List Nat) (hb : ∀ c ∈ b, c < 256) (i : Nat) (h : i < b.length) : b.getD i 0 < 256 := by
  rw [List.getD_eq_getElem?_getD, List.getElem?_eq_getElem h]; exact hb _ (List.getElem_mem _)
theorem read_short (k : Nat) (b : List Nat) (h : b.length < 9 ∨ 57 < b.length) : frame_Read.f (k + 1) (ints b) = some (0, 0, 0, 0, [], 3) := by
  unfold frame_Read.f
  rw [ints_length]
  rcases h with h | h
  · rw [if_pos (by omega), frame_Read.j0, if_pos rfl]
  · rw [if_neg (by omega), decide_eq_true (by omega), frame_Read.j0, if_pos rfl]
/-- What stands in the places of a frame's fields. -/
def num (b : List Nat) : Nat := 256 * b.getD 1 0 + b.getD 2 0
def off (b : List Nat) : Nat := 256 * b.getD 3 0 + b.getD 4 0
def dat (b : List Nat) : List Nat := (b.take (b.length - 2)).drop 7
theorem read_full (k : Nat) (hk : 2700 ≤ k) (b : List Nat) (hb : ∀ c ∈ b, c < 256) (h1 : 9 ≤ b.length) (h2 : b.length ≤ 57) (hs : sh (b.take (b.length - 2)) = tl b) :
    frame_Read.f (k + 2) (ints b) = if RF (b.getD 0 0 : Nat) (num b : Nat) (off b : Nat) (b.getD 5 0 : Nat) (dat b).length ∧ enc (b.getD 0 0) (num b) (off b) (b.getD 5 0) (dat b) = b
      then some (((b.getD 0 0 : Nat) : Int), ((num b : Nat) : Int), ((off b : Nat) : Int), ((b.getD 5 0 : Nat) : Int), ints (dat b), 0) else some (0, 0, 0, 0, [], 3) := by
  unfold frame_Read.f
  rw [ints_length, if_neg (by omega), decide_eq_false (by omega)]
  simp only [frame_Read.j0]
  have e : wrap64 ((b.length : Int) - 2) = ((b.length - 2 : Nat) : Int) := by rw [wraps64 _ (by omega) (by omega)]; omega
  rw [if_neg (by simp), ints_length, e, if_pos (by omega), if_pos (by omega), Int.toNat_natCast, ints_take, short_eq _ (fun c hc => hb c (List.mem_of_mem_take hc)) (by rw [List.length_take]; omega) (k + 1) (by omega) (by rw [List.length_take]; omega), Option.bind_some]
  have g0 := rd_drop b (b.length - 2) 0 (by omega)
  have g1 := rd_drop b (b.length - 2) 1 (by omega)
  rw [Nat.add_zero, show ((0 : Nat) : Int) = 0 from rfl] at g0
  rw [show b.length - 2 + 1 = b.length - 1 by omega, show ((1 : Nat) : Int) = 1 from rfl] at g1
  have b0 := get_lt b hb (b.length - 2) (by omega)
  have b1 := get_lt b hb (b.length - 1) (by omega)
  rw [if_pos (by rw [List.length_drop, ints_length]; omega), if_pos (by rw [List.length_drop, ints_length]; omega), g0, g1, wraps64 ((b.getD (b.length - 2) 0 : Nat) : Int) (by omega) (by omega), wraps64 ((b.getD (b.length - 1) 0 : Nat) : Int) (by omega) (by omega),
    wraps64 (((b.getD (b.length - 1) 0 : Nat) : Int) * 256) (by omega) (by omega), or_256 _ _ b0 b1, if_pos (by unfold tl at hs; omega)]
  have hd7 : ∀ c ∈ dat b, c < 256 := fun c hc => hb c (List.mem_of_mem_take (List.mem_of_mem_drop hc))
  have hdl : (dat b).length = b.length - 9 := by unfold dat; rw [List.length_drop, List.length_take]; omega
  have r0 : rd (ints b) 0 = ((b.getD 0 0 : Nat) : Int) := rd_get b 0 (by omega)
  have r1 : rd (ints b) 1 = ((b.getD 1 0 : Nat) : Int) := rd_get b 1 (by omega)
  have r2 : rd (ints b) 2 = ((b.getD 2 0 : Nat) : Int) := rd_get b 2 (by omega)
  have r3 : rd (ints b) 3 = ((b.getD 3 0 : Nat) : Int) := rd_get b 3 (by omega)
  have r4 : rd (ints b) 4 = ((b.getD 4 0 : Nat) : Int) := rd_get b 4 (by omega)
  have r5 : rd (ints b) 5 = ((b.getD 5 0 : Nat) : Int) := rd_get b 5 (by omega)
  have l0 := get_lt b hb 0 (by omega)
  have l1 := get_lt b hb 1 (by omega)
  have l2 := get_lt b hb 2 (by omega)
  have l3 := get_lt b hb 3 (by omega)
  have l4 := get_lt b hb 4 (by omega)
  have l5 := get_lt b hb 5 (by omega)
  rw [if_pos (by omega), if_pos (by omega), if_pos (by omega), if_pos (by omega), if_pos (by omega), if_pos (by omega), if_pos (by rw [ints_length, List.length_take]; omega), ints_drop, show (b.take (b.length - 2)).drop 7 = dat b from rfl]
  unfold bytes_Clone.f
  rw [if_pos (by rw [ints_length]; omega), Option.bind_some, r0, r1, r2, r3, r4, r5, or_num _ _ l1 l2, or_num _ _ l3 l4, wraps64 ((b.getD 0 0 : Nat) : Int) (by omega) (by omega), wraps64 ((b.getD 5 0 : Nat) : Int) (by omega) (by omega)]
  rw [show (256 * b.getD 1 0 + b.getD 2 0) = num b from rfl, show (256 * b.getD 3 0 + b.getD 4 0) = off b from rfl]
  have j1 : ∀ x, frame_Read.j1 (k + 1) x ((b.getD 0 0 : Nat) : Int) (num b : Nat) (off b : Nat) ((b.getD 5 0 : Nat) : Int) (ints (dat b)) = if x = true then some (0, 0, 0, 0, [], 3) else some (((b.getD 0 0 : Nat) : Int), ((num b : Nat) : Int), ((off b : Nat) : Int), ((b.getD 5 0 : Nat) : Int), ints (dat b), 0) := by
    intro x
    rw [frame_Read.j1]
    by_cases hx : x = true
    · rw [if_pos hx, if_pos hx]
    · rw [if_neg hx, if_neg hx]
      by_cases h0 : ((ints (dat b)).length : Int) = 0
      · rw [if_pos h0]
        have : dat b = [] := List.eq_nil_of_length_eq_zero (by rw [ints_length] at h0; omega)
        rw [this]; rfl
      · rw [if_neg h0]
  by_cases hR : RF (b.getD 0 0 : Nat) (num b : Nat) (off b : Nat) (b.getD 5 0 : Nat) (dat b).length
  · rw [bytes_ok (k + 1) (by omega) _ _ _ _ (dat b) hd7 (by omega) hR, Option.bind_some]
    simp only []
    rw [if_pos trivial, equal_eq _ _ (enc_bytes _ _ _ _ _ hd7) hb, Option.bind_some, j1]
    by_cases he : enc (b.getD 0 0) (num b) (off b) (b.getD 5 0) (dat b) = b
    · rw [if_neg (by rw [beq_iff_eq.2 he]; decide), if_pos ⟨hR, he⟩]
    · rw [if_pos (by rw [beq_eq_false_iff_ne.2 he]; rfl), if_neg (fun h => he h.2)]
  · rw [bytes_no (k + 1) (by omega) _ _ _ _ _ (by rw [ints_length]; exact hR), Option.bind_some]
    simp only []
    rw [if_neg (by decide), j1, if_pos rfl, if_neg (fun h => hR h.1)]
theorem getD_app (a : List Nat) (b : List Nat) (i : Nat) (h : i < a.length) : (a ++ b).getD i 0 = a.getD i 0 := by
  simp [List.getD_eq_getElem?_getD, List.getElem?_append_left h]
theorem enc_at (K N O S : Nat) (d : List Nat) (hd_ : ∀ c ∈ d, c < 256) (hK : K < 256) (hN : N < 65536) (hO : O < 65536) (hS : S < 256) :
    (enc K N O S d).getD 0 0 = K ∧ num (enc K N O S d) = N ∧ off (enc K N O S d) = O ∧ (enc K N O S d).getD 5 0 = S ∧ dat (enc K N O S d) = d ∧ sh ((enc K N O S d).take ((enc K N O S d).length - 2)) = tl (enc K N O S d) := by
  have hl := enc_length K N O S d
  have e7 : ∀ i, i < 7 → (enc K N O S d).getD i 0 = (hd K N O S d.length).getD i 0 := by
    intro i hi
    unfold enc
    rw [getD_app _ _ _ (by simp [hd]; omega), getD_app _ _ _ (by simp [hd]; omega)]
  have htk : (enc K N O S d).take ((enc K N O S d).length - 2) = hd K N O S d.length ++ d := by
    rw [hl]
    unfold enc
    rw [List.take_append_of_le_length (by simp [hd]; omega), List.take_of_length_le (by simp [hd]; omega)]
  refine ⟨?_, ?_, ?_, ?_, ?_, ?_⟩
  · rw [e7 0 (by omega)]; simp [hd]; omega
  · unfold num; rw [e7 1 (by omega), e7 2 (by omega)]; simp [hd]; omega
  · unfold off; rw [e7 3 (by omega), e7 4 (by omega)]; simp [hd]; omega
  · rw [e7 5 (by omega)]; simp [hd]; omega
  · unfold dat; rw [htk]; simp [hd]
  · rw [htk]
    have hlt := sh_lt _ (hdd_bytes K N O S d hd_)
    unfold tl
    rw [hl]
    have g : ∀ i, i < 2 → (enc K N O S d).getD (7 + d.length + i) 0 = [sh (hd K N O S d.length ++ d) % 256, sh (hd K N O S d.length ++ d) / 256 % 256].getD i 0 := by
      intro i hi
      unfold enc
      rw [List.getD_eq_getElem?_getD, List.getElem?_append_right (by simp [hd]; omega), List.getD_eq_getElem?_getD]
      congr 2
      simp [hd]
      omega
    have g0 := g 0 (by omega)
    have g1 := g 1 (by omega)
    rw [show 9 + d.length - 2 = 7 + d.length + 0 by omega, show 9 + d.length - 1 = 7 + d.length + 1 by omega, g0, g1]
    simp
    omega
theorem read_enc (k : Nat) (hk : 2700 ≤ k) (K N O S : Nat) (d : List Nat) (hd_ : ∀ c ∈ d, c < 256) (hK : K < 256) (hN : N < 65536) (hO : O < 65536) (hS : S < 256) (hR : RF K N O S d.length) :
    frame_Read.f (k + 2) (ints (enc K N O S d)) = some (((K : Nat) : Int), ((N : Nat) : Int), ((O : Nat) : Int), ((S : Nat) : Int), ints d, 0) := by
  obtain ⟨a0, a1, a2, a3, a4, a5⟩ := enc_at K N O S d hd_ hK hN hO hS
  have hl := enc_length K N O S d
  have h48 : d.length ≤ 48 := by unfold RF at hR; omega
  rw [read_full k hk _ (enc_bytes K N O S d hd_) (by omega) (by omega) a5, a0, a1, a2, a3, a4, if_pos ⟨hR, rfl⟩]
theorem read_any (k : Nat) (hk : 2700 ≤ k) (b : List Nat) (hb : ∀ c ∈ b, c < 256) :
    (∃ e : Int, (e = 3 ∨ e = 6) ∧ frame_Read.f (k + 2) (ints b) = some (0, 0, 0, 0, [], e)) ∨
    ∃ (K N O S : Nat) (d : List Nat), RF K N O S d.length ∧ (∀ c ∈ d, c < 256) ∧ K < 256 ∧ N < 65536 ∧ O < 65536 ∧ S < 256 ∧ b = enc K N O S d ∧ frame_Read.f (k + 2) (ints b) = some (((K : Nat) : Int), ((N : Nat) : Int), ((O : Nat) : Int), ((S : Nat) : Int), ints d, 0) := by
  by_cases h : b.length < 9 ∨ 57 < b.length
  · exact .inl ⟨3, .inl rfl, read_short (k + 1) b h⟩
  by_cases hs : sh (b.take (b.length - 2)) = tl b
  · have hf := read_full k hk b hb (by omega) (by omega) hs
    by_cases hc : RF (b.getD 0 0 : Nat) (num b : Nat) (off b : Nat) (b.getD 5 0 : Nat) (dat b).length ∧ enc (b.getD 0 0) (num b) (off b) (b.getD 5 0) (dat b) = b
    · rw [if_pos hc] at hf
      have l0 := get_lt b hb 0 (by omega)
      have l1 := get_lt b hb 1 (by omega)
      have l2 := get_lt b hb 2 (by omega)
      have l3 := get_lt b hb 3 (by omega)
      have l4 := get_lt b hb 4 (by omega)
      have l5 := get_lt b hb 5 (by omega)
      exact .inr ⟨_, _, _, _, _, hc.1, fun c hc => hb c (List.mem_of_mem_take (List.mem_of_mem_drop hc)), l0, by unfold num; omega, by unfold off; omega, l5, hc.2.symm, hf⟩
    · rw [if_neg hc] at hf
      exact .inl ⟨3, .inl rfl, hf⟩
  · exact .inl ⟨6, .inr rfl, read_sum (k + 1) (by omega) b hb (by omega) (by omega) hs⟩
end Go.Proofs.Ytcomabcmjhlabaa.FA
