/- The reference's frames: its Bytes, ReadFrame and Spoil come to what frame's do. -/
import Derived.Test.YtcomabcmjhlabaaRead2
import Derived.Test.YtcomabcmjhlabaaRefSums
import Derived.Test.YtcomabcmjhlabaaFAx12
import Derived.Test.YtcomabcmjhlabaaFAx13
import Derived.Test.YtcomabcmjhlabaaFAx14
namespace Go.Proofs.Ytcomabcmjhlabaa.FA
open Go.RowKit Go.Proofs.YtcomabcmjhlabaaW.PrintWords Go.Proofs.YtcomabcmjhlabaaW.PrintLast Go.Proofs.YtcomabcmjhlabaaW.PrintMore Go.Proofs.Ytcomabcmjhlabaa.Crc Go.Proofs.Ytcomabcmjhlabaa.Nums

theorem over_l0 : ∀ (j k i : Nat) (l : List Int), i ≤ l.length → l.length - i = j → l.length < 2 ^ 62 → j < k → ∃ r, wherrykeep_Over.l0 k l (i : Int) = some r := by
  intro j
  induction j with
  | zero =>
    intro k i l hi hj hl hk
    obtain ⟨k, rfl⟩ : ∃ m, k = m + 1 := ⟨k - 1, by omega⟩
    exact ⟨l, by rw [wherrykeep_Over.l0, if_neg (by omega)]⟩
  | succ j ih =>
    intro k i l hi hj hl hk
    obtain ⟨k, rfl⟩ : ∃ m, k = m + 1 := ⟨k - 1, by omega⟩
    rw [wherrykeep_Over.l0, if_pos (by omega), if_pos (by omega), wraps64 _ (by omega) (by omega), show (i : Int) + 1 = ((i + 1 : Nat) : Int) by omega]
    exact ih k (i + 1) _ (by rw [List.length_set]; omega) (by rw [List.length_set]; omega) (by rw [List.length_set]; omega) (by omega)
theorem over_some (l : List Int) (hl : l.length < 2 ^ 62) (k : Nat) (hk : l.length < k) : ∃ r, wherrykeep_Over.f k l = some r := over_l0 l.length k 0 l (by omega) (by omega) hl hk
theorem ref_bytes (k : Nat) (hk : 2700 ≤ k) (K N O S : Nat) (d : List Nat) (hd_ : ∀ c ∈ d, c < 256) (hn : d.length ≤ 200) : wherryref18_Bytes.f k K N O S (ints d) = some (ints (enc K N O S d)) := by
  unfold wherryref18_Bytes.f
  have e : ([((K : Nat) : Int) % 256, ((N : Nat) : Int) / 256 % 256, ((N : Nat) : Int) % 256, ((O : Nat) : Int) / 256 % 256, ((O : Nat) : Int) % 256, ((S : Nat) : Int) % 256, ((ints d).length : Int) % 256] : List Int) = ints (hd K N O S d.length) := by
    simp [ints, hd]
  have hl : (hd K N O S d.length).length = 7 := rfl
  have hb := hdd_bytes K N O S d hd_
  rw [e, Option.bind_some, ints_append, ints_length, ints_length, if_pos (by omega), Option.bind_some, ref_short _ hb (by rw [List.length_append]; omega) k (by rw [List.length_append]; omega), Option.bind_some, cast2, Option.bind_some, ints_length, ints_length, ints_append,
    if_pos (by rw [List.length_append, hl]; simp; omega)]
  rfl
theorem b_split (b : List Nat) (h1 : 2 ≤ b.length) : b = b.take (b.length - 2) ++ [b.getD (b.length - 2) 0, b.getD (b.length - 1) 0] := by
  conv => lhs; rw [← List.take_append_drop (b.length - 2) b]
  congr 1
  rw [List.drop_eq_getElem_cons (by omega), List.drop_eq_getElem_cons (by omega), List.drop_of_length_le (by omega)]
  simp only [List.getD_eq_getElem?_getD, List.getElem?_eq_getElem (show b.length - 2 < b.length by omega), List.getElem?_eq_getElem (show b.length - 1 < b.length by omega), Option.getD_some]
  congr 2
  simp only [show b.length - 2 + 1 = b.length - 1 by omega]
theorem take7 (b : List Nat) (h : 7 ≤ b.length) : b.take 7 = [b.getD 0 0, b.getD 1 0, b.getD 2 0, b.getD 3 0, b.getD 4 0, b.getD 5 0, b.getD 6 0] := by
  rcases b with _ | ⟨x0, _ | ⟨x1, _ | ⟨x2, _ | ⟨x3, _ | ⟨x4, _ | ⟨x5, _ | ⟨x6, r⟩⟩⟩⟩⟩⟩⟩ <;> first | rfl | (simp at h)
theorem enc_iff (b : List Nat) (hb : ∀ c ∈ b, c < 256) (h1 : 9 ≤ b.length) (h2 : b.length ≤ 57) (hs : sh (b.take (b.length - 2)) = tl b) :
    enc (b.getD 0 0) (num b) (off b) (b.getD 5 0) (dat b) = b ↔ b.getD 6 0 = (dat b).length := by
  have hdl : (dat b).length = b.length - 9 := by unfold dat; rw [List.length_drop, List.length_take]; omega
  have l0 := get_lt b hb 0 (by omega)
  have l1 := get_lt b hb 1 (by omega)
  have l2 := get_lt b hb 2 (by omega)
  have l3 := get_lt b hb 3 (by omega)
  have l4 := get_lt b hb 4 (by omega)
  have l5 := get_lt b hb 5 (by omega)
  have l6 := get_lt b hb 6 (by omega)
  have t1 := get_lt b hb (b.length - 2) (by omega)
  have t2 := get_lt b hb (b.length - 1) (by omega)
  constructor
  · intro h
    have e : (enc (b.getD 0 0) (num b) (off b) (b.getD 5 0) (dat b)).getD 6 0 = (dat b).length % 256 := by
      unfold enc
      rw [getD_app _ _ _ (by simp [hd] <;> omega), getD_app _ _ _ (by simp [hd])]
      simp [hd]
    rw [h] at e
    omega
  · intro h6
    have e7 : hd (b.getD 0 0) (num b) (off b) (b.getD 5 0) (dat b).length = b.take 7 := by
      rw [take7 b (by omega)]
      have n1 : num b / 256 % 256 = b.getD 1 0 := by unfold num; omega
      have n2 : num b % 256 = b.getD 2 0 := by unfold num; omega
      have o1 : off b / 256 % 256 = b.getD 3 0 := by unfold off; omega
      have o2 : off b % 256 = b.getD 4 0 := by unfold off; omega
      unfold hd
      rw [n1, n2, o1, o2, Nat.mod_eq_of_lt l0, Nat.mod_eq_of_lt l5, ← h6, Nat.mod_eq_of_lt l6]
    have e8 : b.take 7 ++ dat b = b.take (b.length - 2) := by
      unfold dat
      have := List.take_append_drop 7 (b.take (b.length - 2))
      rw [List.take_take, Nat.min_eq_left (by omega)] at this
      exact this
    unfold enc
    rw [e7, e8, hs]
    have q1 : tl b % 256 = b.getD (b.length - 2) 0 := by unfold tl; omega
    have q2 : tl b / 256 % 256 = b.getD (b.length - 1) 0 := by unfold tl; omega
    rw [q1, q2]
    exact (b_split b (by omega)).symm
theorem ref_read (k : Nat) (hk : 2700 ≤ k) (b : List Nat) (hb : ∀ c ∈ b, c < 256) : wherryref18_ReadFrame.f (k + 2) (ints b) = frame_Read.f (k + 2) (ints b) := by
  by_cases hlen : 9 ≤ b.length ∧ b.length ≤ 57
  · obtain ⟨h1, h2⟩ := hlen
    have hin : wherryref18_in.f ((ints b).length : Int) 9 57 = some true := by rw [in_eq, ints_length]; congr 1; exact decide_eq_true (by omega)
    have e : wrap64 (((ints b).length : Int) - 2) = ((b.length - 2 : Nat) : Int) := by rw [ints_length, wraps64 _ (by omega) (by omega)]; omega
    have e1 : wrap64 (((b.length - 2 : Nat) : Int) + 1) = ((b.length - 1 : Nat) : Int) := by rw [wraps64 _ (by omega) (by omega)]; omega
    have hl := ints_length b
    have g0 : rd (ints b) ((b.length - 2 : Nat) : Int) = ((b.getD (b.length - 2) 0 : Nat) : Int) := rd_get b _ (by omega)
    have g1 : rd (ints b) ((b.length - 1 : Nat) : Int) = ((b.getD (b.length - 1) 0 : Nat) : Int) := rd_get b _ (by omega)
    have b0 := get_lt b hb (b.length - 2) (by omega)
    have b1 := get_lt b hb (b.length - 1) (by omega)
    have eo : Go.bits .or .i64 (wrap64 ((b.getD (b.length - 2) 0 : Nat) : Int)) (wrap64 (wrap64 ((b.getD (b.length - 1) 0 : Nat) : Int) * 256)) = ((tl b : Nat) : Int) := by
      rw [wraps64 ((b.getD (b.length - 2) 0 : Nat) : Int) (by omega) (by omega), wraps64 ((b.getD (b.length - 1) 0 : Nat) : Int) (by omega) (by omega), wraps64 (((b.getD (b.length - 1) 0 : Nat) : Int) * 256) (by omega) (by omega), or_256 _ _ b0 b1]
      rfl
    have hsum := ref_short (b.take (b.length - 2)) (fun c hc => hb c (List.mem_of_mem_take hc)) (by rw [List.length_take]; omega) (k + 2) (by rw [List.length_take]; omega)
    unfold wherryref18_ReadFrame.f
    rw [hin, Option.bind_some, if_pos rfl, e, hl, Int.toNat_natCast, ints_take, hsum, Option.bind_some, e1, g0, g1, eo]
    clear e e1 g0 g1 eo hin hsum
    rw [if_pos (by omega), if_pos (by omega), if_pos (by omega), if_pos (by omega), if_pos (by omega)]
    by_cases hs : sh (b.take (b.length - 2)) = tl b
    · have HS := Aside0.mk hs
      rw [if_pos (by rw [hs])]
      clear hs
      have hd7 : ∀ c ∈ dat b, c < 256 := fun c hc => hb c (List.mem_of_mem_take (List.mem_of_mem_drop hc))
      have hdl : (dat b).length = b.length - 9 := by unfold dat; rw [List.length_drop, List.length_take]; omega
      have l1 := get_lt b hb 1 (by omega)
      have l2 := get_lt b hb 2 (by omega)
      have l3 := get_lt b hb 3 (by omega)
      have l4 := get_lt b hb 4 (by omega)
      have l0 := get_lt b hb 0 (by omega)
      have l5 := get_lt b hb 5 (by omega)
      have l6 := get_lt b hb 6 (by omega)
      have r0 : rd (ints b) 0 = ((b.getD 0 0 : Nat) : Int) := rd_get b 0 (by omega)
      have r1 : rd (ints b) 1 = ((b.getD 1 0 : Nat) : Int) := rd_get b 1 (by omega)
      have r2 : rd (ints b) 2 = ((b.getD 2 0 : Nat) : Int) := rd_get b 2 (by omega)
      have r3 : rd (ints b) 3 = ((b.getD 3 0 : Nat) : Int) := rd_get b 3 (by omega)
      have r4 : rd (ints b) 4 = ((b.getD 4 0 : Nat) : Int) := rd_get b 4 (by omega)
      have r5 : rd (ints b) 5 = ((b.getD 5 0 : Nat) : Int) := rd_get b 5 (by omega)
      have r6 : rd (ints b) 6 = ((b.getD 6 0 : Nat) : Int) := rd_get b 6 (by omega)
      have w0 : wrap64 ((b.getD 0 0 : Nat) : Int) = ((b.getD 0 0 : Nat) : Int) := wraps64 _ (by omega) (by omega)
      have w5 : wrap64 ((b.getD 5 0 : Nat) : Int) = ((b.getD 5 0 : Nat) : Int) := wraps64 _ (by omega) (by omega)
      have w6 : wrap64 ((b.getD 6 0 : Nat) : Int) = ((b.getD 6 0 : Nat) : Int) := wraps64 _ (by omega) (by omega)
      have hn : Go.bits .or .i64 (wrap64 (wrap64 ((b.getD 1 0 : Nat) : Int) * 256)) (wrap64 ((b.getD 2 0 : Nat) : Int)) = ((num b : Nat) : Int) := by rw [or_num _ _ l1 l2]; rfl
      have ho : Go.bits .or .i64 (wrap64 (wrap64 ((b.getD 3 0 : Nat) : Int) * 256)) (wrap64 ((b.getD 4 0 : Nat) : Int)) = ((off b : Nat) : Int) := by rw [or_num _ _ l3 l4]; rfl
      have ht : wherrykeep_Twin.f ((ints (b.take (b.length - 2))).drop 7) = some (ints (dat b)) := by rw [ints_drop]; exact twin_eq (dat b) (by omega)
      have hdl2 : (ints (dat b)).length = (dat b).length := ints_length _
      have hfr := ref_frame (k + 2) ((b.getD 0 0 : Nat) : Int) ((num b : Nat) : Int) ((off b : Nat) : Int) ((b.getD 5 0 : Nat) : Int) (ints (dat b)) (by rw [ints_length]; omega) (by rw [ints_length]; omega)
      rw [hdl2] at hfr
      rw [r0, r1, r2, r3, r4, r5, r6, w0, w5, w6, hn, ho, ht]
      simp only [Option.bind_some]
      rw [hdl2, hfr]
      simp only [Option.bind_some]
      clear r0 r1 r2 r3 r4 r5 r6 w0 w5 w6 hn ho ht hfr hdl2
      rw [if_pos (by omega), if_pos (by omega), if_pos (by omega), if_pos (by omega), if_pos (by omega), if_pos (by omega), if_pos (by omega), if_pos (by omega), read_full k hk b hb h1 h2 HS.out]
      have hiff := enc_iff b hb h1 h2 HS.out
      by_cases h6 : b.getD 6 0 = (dat b).length
      · rw [if_pos (by rw [h6])]
        by_cases hR : RF (b.getD 0 0 : Nat) (num b : Nat) (off b : Nat) (b.getD 5 0 : Nat) (dat b).length
        · rw [decide_eq_true hR, if_pos rfl, if_pos ⟨hR, hiff.2 h6⟩]
        · rw [decide_eq_false hR, if_neg (by decide), if_neg (fun h => hR h.1)]
      · rw [if_neg (show ¬ ((b.getD 6 0 : Nat) : Int) = (((dat b).length : Nat) : Int) from fun h => h6 (by omega)), if_neg (fun h => h6 (hiff.1 h.2))]
    · rw [if_neg (show ¬ ((sh (b.take (b.length - 2)) : Nat) : Int) = ((tl b : Nat) : Int) from fun h => hs (by omega)), read_sum (k + 1) (by omega) b hb h1 h2 hs]
  · rw [read_short (k + 1) b (by omega)]
    unfold wherryref18_ReadFrame.f
    rw [in_eq, ints_length, decide_eq_false (by omega), Option.bind_some]
    rfl
/-- The reference's Spoil turns about what frame's does. -/
theorem ref_cond (x : Int) (i : Nat) (hi : i < 16) : (Go.bits .and .i64 (shr .i64 (Go.bits .or .i64 (x % 65536) 1) (i : Int)) 1 = 1) ↔ FA.cond x i = true := by
  obtain ⟨m, hm⟩ : ∃ m : Nat, x % 65536 = m := ⟨(x % 65536).toNat, by omega⟩
  have hm2 : m < 65536 := by omega
  have eo : Go.bits .or .i64 (m : Int) 1 = ((m ||| 1 : Nat) : Int) := or_i64 m 1 (by omega) (by decide)
  have hlt : m ||| 1 < 2 ^ 16 := Nat.or_lt_two_pow hm2 (by decide)
  rw [hm, eo]
  have es : shr .i64 ((m ||| 1 : Nat) : Int) (i : Int) = (((m ||| 1) / 2 ^ i : Nat) : Int) := by
    unfold shr
    rw [Int.toNat_natCast, Nat.min_eq_left (by simp [IntKind.bits]; omega)]
    simp
  rw [es, and1_i64 _ (Nat.lt_of_le_of_lt (Nat.div_le_self _ _) (by omega))]
  have bt_ : ∀ n : Nat, ((n / 2 ^ i % 2 : Nat) : Int) = 1 ↔ n.testBit i = true := by
    intro n
    rw [Nat.testBit_eq_decide_div_mod_eq, decide_eq_true_eq]
    generalize n / 2 ^ i % 2 = q
    omega
  rw [bt_, Nat.testBit_or]
  by_cases h0 : i = 0
  · subst h0
    simp [FA.cond]
  · have h1 : (1 : Nat).testBit i = false := by
      rw [show (1 : Nat) = 2 ^ 0 from rfl, Nat.testBit_two_pow]; simp; omega
    rw [h1, Bool.or_false, ← bt_]
    unfold FA.cond
    have ea : ∀ y : Int, Go.bits .and .i64 y 1 = y % 2 := by
      intro y
      unfold Go.bits
      have e : ((BitVec.ofInt 64 y) &&& (BitVec.ofInt 64 1)).toNat = (y % 2).toNat := by
        rw [BitVec.toNat_and]
        have h1 : (BitVec.ofInt 64 1).toNat = 1 := by decide
        rw [h1, Nat.and_one_is_mod, BitVec.toNat_ofInt]
        omega
      show IntKind.i64.wrap (((BitVec.ofInt 64 y) &&& (BitVec.ofInt 64 1)).toNat : Int) = _
      rw [e, wraps_i64 _ (by omega) (by omega)]
      omega
    rw [ea]
    unfold shr
    rw [Int.toNat_natCast, Nat.min_eq_left (by simp [IntKind.bits]; omega)]
    have : i = 1 ∨ i = 2 ∨ i = 3 ∨ i = 4 ∨ i = 5 ∨ i = 6 ∨ i = 7 ∨ i = 8 ∨ i = 9 ∨ i = 10 ∨ i = 11 ∨ i = 12 ∨ i = 13 ∨ i = 14 ∨ i = 15 := by omega
    clear bt_ ea es eo hlt h1
    rcases this with rfl | rfl | rfl | rfl | rfl | rfl | rfl | rfl | rfl | rfl | rfl | rfl | rfl | rfl | rfl <;> simp <;> omega
theorem ref_mod (x : Int) : Int.tmod (wrap64 (Int.tmod x 65536 + 65536)) 65536 = x % 65536 := by
  have h1 : -65536 < Int.tmod x 65536 := Int.lt_tmod_of_pos _ (by omega)
  have h2 : Int.tmod x 65536 < 65536 := Int.tmod_lt_of_pos _ (by omega)
  rw [wraps64 _ (by omega) (by omega), Int.tmod_eq_emod_of_nonneg (by omega)]
  have h3 : Int.tmod x 65536 = x - 65536 * Int.tdiv x 65536 := by have := Int.mul_tdiv_add_tmod x 65536; omega
  omega
theorem ref_spoil_l0 (n at_ : Nat) (x : Int) (hn : n ≤ 5000) (hat : at_ < 8 * n) (v0 : Nat) : ∀ (j k i : Nat) (xs : List Nat), i ≤ 16 → 16 - i = j → 2 * j + 2 ≤ k → (∀ c ∈ xs, c < 256) → xs.length = n → Aside0 (val xs = v0 ^^^ (2 ^ at_ * msk x at_ (8 * n) i)) →
    ∃ ys : List Nat, wherryref18_Spoil.l0 k at_ (Go.bits .or .i64 (x % 65536) 1) (ints xs) ((8 * n : Nat) : Int) i = some (ints ys) ∧ (∀ c ∈ ys, c < 256) ∧ ys.length = n ∧ val ys = v0 ^^^ (2 ^ at_ * msk x at_ (8 * n) 16) := by
  have stop : ∀ (k i : Nat) (xs : List Nat), 1 ≤ k → i ≤ 16 → 8 * n ≤ at_ + i ∨ i = 16 → (∀ c ∈ xs, c < 256) → xs.length = n → Aside0 (val xs = v0 ^^^ (2 ^ at_ * msk x at_ (8 * n) i)) →
      ∃ ys : List Nat, wherryref18_Spoil.j1 k at_ (Go.bits .or .i64 (x % 65536) 1) (ints xs) ((8 * n : Nat) : Int) i false = some (ints ys) ∧ (∀ c ∈ ys, c < 256) ∧ ys.length = n ∧ val ys = v0 ^^^ (2 ^ at_ * msk x at_ (8 * n) 16) := by
    intro k i xs hk hi he hx hl hv
    obtain ⟨k, rfl⟩ : ∃ q, k = q + 1 := ⟨k - 1, by omega⟩
    refine ⟨xs, ?_, hx, hl, ?_⟩
    · simp only [wherryref18_Spoil.j1]; rw [if_neg (by simp)]
    · rcases he with he | he
      · have := msk_end x at_ (8 * n) i he (16 - i)
        rw [show i + (16 - i) = 16 by omega] at this
        rw [this]; exact hv.out
      · rw [← he]; exact hv.out
  intro j
  induction j with
  | zero =>
    intro k i xs hi hj hk hx hl hv
    obtain ⟨k, rfl⟩ : ∃ q, k = q + 1 := ⟨k - 1, by omega⟩
    simp only [wherryref18_Spoil.l0]
    rw [if_neg (by omega)]
    exact stop k i xs (by omega) hi (Or.inr (by omega)) hx hl hv
  | succ j ih =>
    intro k i xs hi hj hk hx hl hv
    obtain ⟨k, rfl⟩ : ∃ q, k = q + 1 := ⟨k - 1, by omega⟩
    simp only [wherryref18_Spoil.l0]
    rw [if_pos (by omega), wraps64 ((at_ : Int) + i) (by omega) (by omega)]
    by_cases hend : at_ + i < 8 * n
    · rw [decide_eq_true (by omega)]
      obtain ⟨k, rfl⟩ : ∃ q, k = q + 1 := ⟨k - 1, by omega⟩
      have e1 : wrap64 ((i : Int) + 1) = ((i + 1 : Nat) : Int) := by rw [wraps64 _ (by omega) (by omega)]; omega
      have e2 : wrap64 (Int.tdiv ((at_ : Int) + i) 8) = (((at_ + i) / 8 : Nat) : Int) := by
        rw [Int.tdiv_eq_ediv_of_nonneg (by omega), wraps64 _ (by omega) (by omega)]; omega
      have e3 : IntKind.u64.wrap (Int.tmod ((at_ : Int) + i) 8) = (((at_ + i) % 8 : Nat) : Int) := by
        rw [Int.tmod_eq_emod_of_nonneg (by omega), wraps_u64 _ (by omega) (by omega)]; omega
      have hp8 : (at_ + i) / 8 < xs.length := by omega
      have hc : xs[(at_ + i) / 8] < 256 := hx _ (List.getElem_mem _)
      have ht : 2 ^ ((at_ + i) % 8) < 2 ^ 8 := Nat.pow_lt_pow_right (by decide) (by omega)
      simp only [wherryref18_Spoil.j1]
      rw [if_pos trivial, wraps_u64 (i : Int) (by omega) (by omega), if_pos (by omega)]
      by_cases hcd : FA.cond x i = true
      · rw [if_pos ((ref_cond x i (by omega)).2 hcd), wraps64 ((at_ : Int) + i) (by omega) (by omega), e1, e2, e3, ints_length, if_pos (by omega), if_pos (by omega), if_pos (by omega), rd_ints xs _ hp8, shl_u8 _ (by omega), xor_u8 _ _ hc (by omega), Int.toNat_natCast, ints_set]
        refine ih k (i + 1) _ (by omega) (by omega) (by omega) ?_ (by rw [List.length_set]; exact hl) ⟨?_⟩
        · intro c hc2
          rcases List.mem_or_eq_of_mem_set hc2 with h | h
          · exact hx c h
          · rw [h]; exact Nat.xor_lt_two_pow (n := 8) hc ht
        · simp only [msk]
          rw [if_pos ⟨hcd, hend⟩, val_set xs _ hp8, hv.out, mul_xor, ← Nat.pow_add, Nat.xor_assoc, show 8 * ((at_ + i) / 8) + (at_ + i) % 8 = at_ + i by omega]
      · rw [if_neg (fun h => hcd ((ref_cond x i (by omega)).1 h)), e1]
        refine ih k (i + 1) xs (by omega) (by omega) (by omega) hx hl ⟨?_⟩
        simp only [msk]
        rw [if_neg (fun h => hcd h.1)]
        exact hv.out
    · rw [decide_eq_false (by omega)]
      exact stop k i xs (by omega) hi (Or.inl (by omega)) hx hl hv
theorem ref_spoil (k : Nat) (hk : 40 ≤ k) (at_ x : Int) (b : List Nat) (hn : b.length ≤ 5000) (hb : ∀ c ∈ b, c < 256) : ∃ ys : List Nat, frame_Spoil.f k (ints b) at_ x = some (ints ys) ∧ wherryref18_Spoil.f k (ints b) at_ x = some (ints ys) ∧ ys.length = b.length := by
  by_cases h0 : b.length = 0
  · have : b = [] := List.eq_nil_of_length_eq_zero h0
    subst this
    refine ⟨[], ?_, ?_, rfl⟩
    · unfold frame_Spoil.f bytes_Clone.f
      have hw : wrap64 (8 * ((ints []).length : Int)) = 0 := by rw [ints_length, wraps64 _ (by decide) (by decide)]; rfl
      rw [hw, if_pos (by rw [ints_length]; decide), Option.bind_some, if_pos rfl]
    · unfold wherryref18_Spoil.f
      rw [twin_eq [] (by simp), Option.bind_some, if_pos (by rfl)]
  · obtain ⟨ys, h1, h2, h3, h4⟩ := spoil_eq k hk at_ x b.length hn (by omega) b hb rfl
    obtain ⟨p1, p2⟩ := place_eq at_ (8 * b.length) (by omega) (by omega)
    have e8 : wrap64 (8 * ((ints b).length : Int)) = ((8 * b.length : Nat) : Int) := by rw [ints_length, wraps64 _ (by omega) (by omega)]; omega
    obtain ⟨zs, g1, g2, g3, g4⟩ := ref_spoil_l0 b.length (place at_ (8 * b.length)) x hn p2 (val b) 16 k 0 b (by omega) (by omega) (by omega) hb rfl ⟨by simp [msk]⟩
    have : zs = ys := val_inj zs ys (by omega) g2 h2 (by rw [g4, h4])
    subst this
    refine ⟨zs, h1, ?_, h3⟩
    unfold wherryref18_Spoil.f
    rw [twin_eq b (by omega), Option.bind_some, if_neg (by rw [ints_length]; omega), e8, if_neg (by omega), p1, ref_mod]
    exact g1
end Go.Proofs.Ytcomabcmjhlabaa.FA
