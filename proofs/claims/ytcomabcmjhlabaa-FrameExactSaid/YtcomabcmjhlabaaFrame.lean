/- What the printed functions of package frame come to, as plain facts. -/
import Derived.Test.YtcomabcmjhlabaaSums
import Derived.Test.YtcomabcmjhlabaaFAx7
import Derived.Test.YtcomabcmjhlabaaFAx1
import Derived.Test.YtcomabcmjhlabaaFAx2
import Derived.Test.YtcomabcmjhlabaaFAx4
namespace Go.Proofs.Ytcomabcmjhlabaa.FA
open Go.RowKit Go.Proofs.YtcomabcmjhlabaaW.PrintWords Go.Proofs.YtcomabcmjhlabaaW.PrintLast Go.Proofs.YtcomabcmjhlabaaW.PrintMore Go.Proofs.Ytcomabcmjhlabaa.Crc Go.Proofs.Ytcomabcmjhlabaa.Nums

/-- A right frame: kind, number, offset, turn, how many bytes of data. -/
def RF (K N O S : Int) (d : Nat) : Prop :=
  (1 ≤ N ∧ N ≤ 65535) ∧ (((K = 1 ∨ K = 2) ∧ 0 ≤ O ∧ O ≤ 5000 ∧ S = 0 ∧ d = 0) ∨ (K = 3 ∧ 0 ≤ O ∧ O ≤ 5000 ∧ 0 ≤ S ∧ S ≤ 7 ∧ 1 ≤ d ∧ d ≤ 48) ∨ (K = 4 ∧ O = 0 ∧ 0 ≤ S ∧ S ≤ 7 ∧ d = 0) ∨ (K = 5 ∧ O = 0 ∧ S = 0 ∧ d = 0))
instance (K N O S : Int) (d : Nat) : Decidable (RF K N O S d) := by unfold RF; infer_instance
theorem within_eq (n : Int) (b : Bool) (m : Int) : frame_within.f n b m = some (decide (n = 0 ∨ (b = true ∧ 0 < n ∧ n ≤ m))) := by
  unfold frame_within.f
  by_cases h : n = 0
  · rw [if_pos h, decide_eq_true (Or.inl h)]
  · rw [if_neg h]
    cases b
    · rw [if_neg (by simp), decide_eq_false (by simp [h])]
    · rw [if_pos rfl]
      by_cases h2 : n > 0
      · rw [if_pos h2]; congr 1; exact decide_eq_decide.2 (by simp [h]; omega)
      · rw [if_neg h2, decide_eq_false (by simp [h]; omega)]
theorem check_j1 (k : Nat) (o s d : Bool) (K N O S : Int) (l : List Int) : frame_Check.j1 (k + 1) o s d K N O S l =
    some (if 1 ≤ N ∧ N ≤ 65535 ∧ (O = 0 ∨ (o = true ∧ 0 < O ∧ O ≤ 5000)) ∧ (S = 0 ∨ (s = true ∧ 0 < S ∧ S ≤ 7)) ∧ (d = true ↔ 0 < l.length) ∧ l.length ≤ 48 then 0 else 1) := by
  simp only [frame_Check.j1]
  by_cases h1 : N < 1
  · rw [if_pos h1, if_neg (by omega)]
  rw [if_neg h1]
  by_cases h2 : N > 65535
  · rw [if_pos h2, if_neg (by omega)]
  rw [if_neg h2, within_eq, Option.bind_some]
  by_cases h3 : O = 0 ∨ (o = true ∧ 0 < O ∧ O ≤ 5000)
  · rw [decide_eq_true h3, if_pos rfl, within_eq, Option.bind_some]
    by_cases h4 : S = 0 ∨ (s = true ∧ 0 < S ∧ S ≤ 7)
    · rw [decide_eq_true h4, if_pos rfl]
      have e : (d != decide ((l.length : Int) > 0)) = !decide (d = true ↔ 0 < l.length) := by
        by_cases hl : 0 < l.length
        · rw [decide_eq_true (show (l.length : Int) > 0 by omega)]; cases d <;> simp [hl]
        · rw [decide_eq_false (show ¬ ((l.length : Int) > 0) by omega)]; cases d <;> simp [hl]
      rw [e]
      by_cases h5 : d = true ↔ 0 < l.length
      · rw [decide_eq_true h5, if_neg (by simp)]
        by_cases h6 : (l.length : Int) > 48
        · rw [if_pos h6, if_neg (by omega)]
        · rw [if_neg h6, if_pos ⟨by omega, by omega, h3, h4, h5, by omega⟩]
      · rw [decide_eq_false h5, if_pos (by decide), if_neg (fun h => h5 h.2.2.2.2.1)]
    · rw [decide_eq_false h4, if_neg (by simp), if_neg (fun h => h4 h.2.2.2.1)]
  · rw [decide_eq_false h3, if_neg (by simp), if_neg (fun h => h3 h.2.2.1)]
theorem ite01 {A B : Prop} [Decidable A] [Decidable B] (h : A ↔ B) : (if A then (0 : Int) else 1) = if B then 0 else 1 := by
  by_cases hA : A
  · rw [if_pos hA, if_pos (h.1 hA)]
  · rw [if_neg hA, if_neg (fun hb => hA (h.2 hb))]
theorem check_eq (k : Nat) (hk : 2 ≤ k) (K N O S : Int) (l : List Int) : frame_Check.f k K N O S l = some (if RF K N O S l.length then 0 else 1) := by
  obtain ⟨k, rfl⟩ : ∃ m, k = m + 2 := ⟨k - 2, by omega⟩
  unfold frame_Check.f
  have key : ∀ b : Bool, (b = true ↔ (K = 1 ∨ K = 2)) → frame_Check.j0 (k + 2) false false false K b K N O S l = some (if RF K N O S l.length then 0 else 1) := by
    intro b hb
    simp only [frame_Check.j0]
    by_cases h : b = true
    · rw [if_pos h, check_j1]
      have hK := hb.1 h
      congr 1
      refine ite01 ?_
      unfold RF
      simp only [true_and, Bool.false_eq_true, false_and, or_false, false_iff]
      omega
    · rw [if_neg h]
      have hK : ¬ (K = 1 ∨ K = 2) := fun h2 => h (hb.2 h2)
      by_cases h3 : K = 3
      · rw [if_pos h3, check_j1]
        congr 1
        refine ite01 ?_
        unfold RF
        simp only [true_and, true_iff]
        omega
      rw [if_neg h3]
      by_cases h4 : K = 4
      · rw [if_pos h4, check_j1]
        congr 1
        refine ite01 ?_
        unfold RF
        simp only [true_and, Bool.false_eq_true, false_and, or_false, false_iff]
        omega
      rw [if_neg h4]
      by_cases h5 : K = 5
      · rw [if_pos h5, check_j1]
        congr 1
        refine ite01 ?_
        unfold RF
        simp only [Bool.false_eq_true, false_and, or_false, false_iff]
        omega
      rw [if_neg h5, if_neg (by unfold RF; omega)]
  by_cases h : K = 1
  · rw [if_pos h]
    exact key _ (by simp [h])
  · rw [if_neg h]
    exact key _ (by simp [h])
theorem in_eq (a b c : Int) : wherryref18_in.f a b c = some (decide (b ≤ a ∧ a ≤ c)) := by
  unfold wherryref18_in.f
  by_cases h : a ≥ b
  · rw [if_pos h]; congr 1; exact decide_eq_decide.2 (by omega)
  · rw [if_neg h, decide_eq_false (by omega)]
theorem keep_frame (k : Nat) (K N O S K2 N2 O2 S2 : Int) (l l2 : List Int) (hn : l.length < 2 ^ 62) (hk : l.length < k) : wherrykeep_Frame.f k K N O S l K2 N2 O2 S2 l2 = some (decide (K = K2 ∧ N = N2 ∧ O = O2 ∧ S = S2 ∧ l = l2)) := by
  unfold wherrykeep_Frame.f
  by_cases h1 : K = K2
  · rw [if_pos h1]
    by_cases h2 : N = N2
    · rw [if_pos h2]
      by_cases h3 : O = O2
      · rw [if_pos h3]
        by_cases h4 : S = S2
        · rw [if_pos h4, keep_bytes _ _ hn k hk, Option.bind_some]
          congr 1
          exact decide_eq_decide.2 (by simp [h1, h2, h3, h4])
        · rw [if_neg h4, decide_eq_false (fun h => h4 h.2.2.2.1)]
      · rw [if_neg h3, decide_eq_false (fun h => h3 h.2.2.1)]
    · rw [if_neg h2, decide_eq_false (fun h => h2 h.2.1)]
  · rw [if_neg h1, decide_eq_false (fun h => h1 h.1)]
theorem len0 {l : List Int} : ([] : List Int) = l ↔ l.length = 0 := ⟨fun h => by rw [← h]; rfl, fun h => (List.eq_nil_of_length_eq_zero h).symm⟩
theorem ref_frame (k : Nat) (K N O S : Int) (l : List Int) (hn : l.length < 2 ^ 62) (hk : l.length + 2 < k) : wherryref18_Frame.f k K N O S l = some (decide (RF K N O S l.length)) := by
  obtain ⟨k, rfl⟩ : ∃ m, k = m + 1 := ⟨k - 1, by omega⟩
  unfold wherryref18_Frame.f
  rw [in_eq, Option.bind_some]
  have key : ∀ b : Bool, (b = true ↔ (K = 1 ∨ K = 2)) → wherryref18_Frame.j0 (k + 1) (decide (1 ≤ N ∧ N ≤ 65535)) K b K N O S l K N 0 0 = some (decide (RF K N O S l.length)) := by
    intro b hb
    simp only [wherryref18_Frame.j0]
    by_cases hN : 1 ≤ N ∧ N ≤ 65535
    · rw [decide_eq_true hN]
      by_cases h : b = true
      · have hK := hb.1 h
        rw [if_pos h, if_pos rfl, in_eq, Option.bind_some]
        by_cases h2 : 0 ≤ O ∧ O ≤ 5000
        · rw [decide_eq_true h2, if_pos rfl, keep_frame k _ _ _ _ _ _ _ _ _ _ (by simp) (by simp; omega), Option.bind_some]
          congr 1
          refine decide_eq_decide.2 ?_
          rw [len0]
          unfold RF
          omega
        · rw [decide_eq_false h2, if_neg (by simp), decide_eq_false (by unfold RF; omega)]
      · have hK : ¬ (K = 1 ∨ K = 2) := fun h2 => h (hb.2 h2)
        rw [if_neg h]
        by_cases h3 : K = 3
        · rw [if_pos h3, if_pos rfl, in_eq, Option.bind_some]
          by_cases h4 : 0 ≤ O ∧ O ≤ 5000
          · rw [decide_eq_true h4, if_pos rfl, in_eq, Option.bind_some]
            by_cases h5 : 0 ≤ S ∧ S ≤ 7
            · rw [decide_eq_true h5, if_pos rfl, in_eq, Option.bind_some]
              by_cases h6 : (1 : Int) ≤ (l.length : Int) ∧ (l.length : Int) ≤ 48
              · rw [decide_eq_true h6, if_pos rfl, keep_frame k _ _ _ _ _ _ _ _ _ _ hn (by omega), Option.bind_some]
                congr 1
                refine decide_eq_decide.2 ?_
                unfold RF
                constructor
                · intro _; omega
                · intro _; exact ⟨rfl, rfl, rfl, rfl, rfl⟩
              · rw [decide_eq_false h6, if_neg (by simp), decide_eq_false (by unfold RF; omega)]
            · rw [decide_eq_false h5, if_neg (by simp), decide_eq_false (by unfold RF; omega)]
          · rw [decide_eq_false h4, if_neg (by simp), decide_eq_false (by unfold RF; omega)]
        rw [if_neg h3]
        by_cases h4 : K = 4
        · rw [if_pos h4, if_pos rfl, in_eq, Option.bind_some]
          by_cases h5 : 0 ≤ S ∧ S ≤ 7
          · rw [decide_eq_true h5, if_pos rfl, keep_frame k _ _ _ _ _ _ _ _ _ _ (by simp) (by simp; omega), Option.bind_some]
            congr 1
            refine decide_eq_decide.2 ?_
            rw [len0]
            unfold RF
            omega
          · rw [decide_eq_false h5, if_neg (by simp), decide_eq_false (by unfold RF; omega)]
        rw [if_neg h4]
        by_cases h5 : K = 5
        · rw [if_pos h5, if_pos rfl, keep_frame k _ _ _ _ _ _ _ _ _ _ (by simp) (by simp; omega), Option.bind_some]
          congr 1
          refine decide_eq_decide.2 ?_
          rw [len0]
          unfold RF
          omega
        rw [if_neg h5, decide_eq_false (by unfold RF; omega)]
    · rw [decide_eq_false hN]
      have : ¬ RF K N O S l.length := fun h => hN h.1
      rw [decide_eq_false this]
      simp only [Bool.false_eq_true, if_false]
      repeat' first | rfl | split
  by_cases h : K = 1
  · rw [if_pos h]
    exact key _ (by simp [h])
  · rw [if_neg h]
    exact key _ (by simp [h])

/-- A frame's bytes. -/
def hd (K N O S d : Nat) : List Nat := [K % 256, N / 256 % 256, N % 256, O / 256 % 256, O % 256, S % 256, d % 256]
def enc (K N O S : Nat) (d : List Nat) : List Nat := (hd K N O S d.length ++ d) ++ [sh (hd K N O S d.length ++ d) % 256, sh (hd K N O S d.length ++ d) / 256 % 256]
theorem hd_bytes (K N O S d : Nat) : ∀ c ∈ hd K N O S d, c < 256 := by
  intro c hc
  simp [hd] at hc
  omega
theorem hdd_bytes (K N O S : Nat) (d : List Nat) (hd_ : ∀ c ∈ d, c < 256) : ∀ c ∈ hd K N O S d.length ++ d, c < 256 := bytes_app (hd_bytes K N O S d.length) hd_
theorem enc_bytes (K N O S : Nat) (d : List Nat) (hd_ : ∀ c ∈ d, c < 256) : ∀ c ∈ enc K N O S d, c < 256 := bytes_app (hdd_bytes K N O S d hd_) (bytes2 _)
theorem enc_length (K N O S : Nat) (d : List Nat) : (enc K N O S d).length = 9 + d.length := by simp [enc, hd]; omega
theorem put_eq (k : Nat) (hk : 2700 ≤ k) (K N O S : Nat) (d : List Nat) (hd_ : ∀ c ∈ d, c < 256) (hn : d.length ≤ 2000) : frame_put.f k K N O S (ints d) = some (ints (enc K N O S d)) := by
  unfold frame_put.f
  have e : ([((K : Nat) : Int) % 256, ((N : Nat) : Int) / 256 % 256, ((N : Nat) : Int) % 256, ((O : Nat) : Int) / 256 % 256, ((O : Nat) : Int) % 256, ((S : Nat) : Int) % 256, ((ints d).length : Int) % 256] : List Int) = ints (hd K N O S d.length) := by
    simp [ints, hd]
  have hl : (hd K N O S d.length).length = 7 := rfl
  have hb := hdd_bytes K N O S d hd_
  rw [e, Option.bind_some, ints_append, ints_length, ints_length, if_pos (by omega), Option.bind_some, short_eq _ hb (by rw [List.length_append]; omega) k (by omega) (by rw [List.length_append]; omega), Option.bind_some, cast2, Option.bind_some, ints_length, ints_length, ints_append,
    if_pos (by rw [List.length_append, hl]; simp; omega)]
  rfl
theorem bytes_ok (k : Nat) (hk : 2700 ≤ k) (K N O S : Nat) (d : List Nat) (hd_ : ∀ c ∈ d, c < 256) (hn : d.length ≤ 2000) (h : RF K N O S d.length) : frame_Bytes.f k K N O S (ints d) = some (ints (enc K N O S d), 0) := by
  unfold frame_Bytes.f
  rw [check_eq k (by omega), Option.bind_some, ints_length, if_pos h, if_pos rfl, put_eq k hk K N O S d hd_ hn]
  rfl
theorem bytes_no (k : Nat) (hk : 2 ≤ k) (K N O S : Int) (l : List Int) (h : ¬ RF K N O S l.length) : frame_Bytes.f k K N O S l = some ([], 1) := by
  unfold frame_Bytes.f
  rw [check_eq k hk, Option.bind_some, if_neg h, if_neg (by decide)]
theorem rf_nat {K N O S : Int} {d : Nat} (h : RF K N O S d) : ∃ K' N' O' S' : Nat, K = K' ∧ N = N' ∧ O = O' ∧ S = S' ∧ K' < 256 ∧ N' < 65536 ∧ O' < 65536 ∧ S' < 256 ∧ d < 256 := by
  unfold RF at h
  exact ⟨K.toNat, N.toNat, O.toNat, S.toNat, by omega, by omega, by omega, by omega, by omega, by omega, by omega, by omega, by omega⟩

/-- Numbers of bytes: one text of each number. -/
theorem val_inj : ∀ (a b : List Nat), a.length = b.length → (∀ c ∈ a, c < 256) → (∀ c ∈ b, c < 256) → val a = val b → a = b := by
  intro a
  induction a with
  | nil => intro b hl _ _ _; exact (List.eq_nil_of_length_eq_zero hl.symm).symm
  | cons x xs ih =>
    intro b hl ha hb hv
    rcases b with _ | ⟨y, ys⟩
    · simp at hl
    have hx := ha x List.mem_cons_self
    have hy := hb y List.mem_cons_self
    simp only [val] at hv
    have m8 : ∀ z v : Nat, z < 256 → (z ^^^ (256 * v)) % 2 ^ 8 = z ∧ (z ^^^ (256 * v)) / 2 ^ 8 = v := by
      intro z v hz
      rw [Nat.xor_mod_two_pow, Nat.xor_div_two_pow]
      have e1 : 256 * v % 2 ^ 8 = 0 := by omega
      have e2 : 256 * v / 2 ^ 8 = v := by omega
      have e3 : z % 2 ^ 8 = z := by omega
      have e4 : z / 2 ^ 8 = 0 := by omega
      rw [e1, e2, e3, e4, Nat.xor_zero, Nat.zero_xor]
      exact ⟨rfl, rfl⟩
    obtain ⟨p1, p2⟩ := m8 x (val xs) hx
    obtain ⟨q1, q2⟩ := m8 y (val ys) hy
    have h1 : x = y := by rw [← p1, ← q1, hv]
    have h2 : val xs = val ys := by rw [← p2, ← q2, hv]
    rw [h1, ih ys (by simpa using hl) (fun c hc => ha c (List.mem_cons_of_mem _ hc)) (fun c hc => hb c (List.mem_cons_of_mem _ hc)) h2]

end Go.Proofs.Ytcomabcmjhlabaa.FA
