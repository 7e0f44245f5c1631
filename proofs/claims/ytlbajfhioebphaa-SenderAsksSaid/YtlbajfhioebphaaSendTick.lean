/- What a tick makes of a right sending. -/
import Derived.Test.YtlbajfhioebphaaSend
import Derived.Test.YtlbajfhioebphaaFAx4
import Derived.Test.YtlbajfhioebphaaFAx3
namespace Go.Proofs.Ytlbajfhioebphaa.FA
open Go.RowKit Go.Proofs.YtlbajfhioebphaaW.PrintWords Go.Proofs.YtlbajfhioebphaaW.PrintLast Go.Proofs.YtlbajfhioebphaaW.PrintMore Go.Proofs.Ytlbajfhioebphaa.Nums
/-- The frame of a piece. -/
def chunkF (N : Int) (l : List Int) (i : Int) : S32 := ⟨3, N, i * 48, i % 8, (l.take (mn (i * 48 + 48) (l.length : Int)).toNat).drop (i * 48).toNat⟩
/-- The frames of so many pieces. -/
def pcs (N : Int) (l : List Int) : Nat → Int → List S32
  | 0, _ => []
  | n + 1, i => chunkF N l i :: pcs N l n (i + 1)
theorem pcs_length (N : Int) (l : List Int) : ∀ (n : Nat) (i : Int), (pcs N l n i).length = n
  | 0, _ => rfl
  | n + 1, i => by rw [pcs, List.length_cons, pcs_length N l n (i + 1)]
theorem pcs_get (N : Int) (l : List Int) : ∀ (n : Nat) (i : Int) (j : Nat), j < n → (pcs N l n i).getD j z32 = chunkF N l (i + j)
  | 0, _, _, h => by omega
  | n + 1, i, 0, _ => by rw [pcs, List.getD_cons_zero]; simp
  | n + 1, i, j + 1, h => by
    rw [pcs, List.getD_cons_succ, pcs_get N l n (i + 1) j (by omega), show i + 1 + (j : Int) = i + ((j + 1 : Nat) : Int) by omega]
theorem pieces_l0 (N : Int) (l : List Int) (R : Bool) (B X W : Int) (O : Bool) (hl : (l.length : Int) ≤ 5000) (tt : Int) (ht : tt ≤ cnt l.length) : ∀ (n : Nat) (k : Nat) (i : Int) (acc : List S32), 0 ≤ i → i ≤ tt → (tt - i).toNat = n → n < k → acc.length + n ≤ 1000 →
    sender_pieces.l0 k tt acc i N l R B X W O = some (acc ++ pcs N l n i) := by
  have hc : cnt l.length ≤ 200 := by unfold cnt; omega
  intro n
  induction n with
  | zero =>
    intro k i acc h0 h1 hn hk ha
    obtain ⟨k, rfl⟩ : ∃ m, k = m + 1 := ⟨k - 1, by omega⟩
    rw [sender_pieces.l0, if_neg (by omega), pcs, List.append_nil]
  | succ n ih =>
    intro k i acc h0 h1 hn hk ha
    obtain ⟨k, rfl⟩ : ∃ m, k = m + 1 := ⟨k - 1, by omega⟩
    have e1 : wrap64 (i * 48) = i * 48 := wraps64 _ (by omega) (by omega)
    have e2 : wrap64 (i * 48 + 48) = i * 48 + 48 := wraps64 _ (by omega) (by omega)
    have hi : i * 48 ≤ (l.length : Int) := by unfold cnt at ht; omega
    rw [sender_pieces.l0, if_pos (by omega), e1, e2, if_pos (by omega), if_pos (by rw [le_mn]; omega), if_pos (by unfold mn; split <;> omega)]
    rw [clone_eq _ (by rw [List.length_drop, List.length_take]; omega), Option.bind_some, if_pos (by omega), wraps64 (i + 1) (by omega) (by omega), Int.tmod_eq_emod_of_nonneg h0,
      ih k (i + 1) _ (by omega) (by omega) (by omega) (by omega) (by simp only [List.length_append, List.length_cons, List.length_nil]; omega), pcs, List.append_assoc]
    rfl
theorem pieces_eq (k : Nat) (hk : 300 ≤ k) (N : Int) (l : List Int) (R : Bool) (B X W : Int) (O : Bool) (hl : (l.length : Int) ≤ 5000) (i tt : Int) (h0 : 0 ≤ i) (h1 : i ≤ tt) (ht : tt ≤ cnt l.length) :
    sender_pieces.f k N l R B X W O i tt = some (pcs N l (tt - i).toNat i) := by
  have hc : cnt l.length ≤ 200 := by unfold cnt; omega
  unfold sender_pieces.f
  rw [pieces_l0 N l R B X W O hl tt ht (tt - i).toNat k i [] h0 h1 rfl (by omega) (by simp only [List.length_nil]; omega)]
  rfl
/-- The three things that a tick may be, where the sending is not over. -/
theorem tick_sends (k : Nat) (hk : 301 ≤ k) (N : Int) (l : List Int) (B X W : Int) (h : RS N l.length true B X W) (hX : X < mn (B + 7) (cnt l.length)) :
    sender_Tick.f k N l true B X W false = some (N, l, true, B, mn (B + 7) (cnt l.length), 3, false, pcs N l (mn (B + 7) (cnt l.length) - X).toNat X, 0) := by
  obtain ⟨k, rfl⟩ : ∃ m, k = m + 1 := ⟨k - 1, by omega⟩
  have hL := h.2.1
  have hB := h.2.2.2.2.1
  have hX2 := h.2.2.2.2.2
  unfold sender_Tick.f
  rw [scheck, if_pos h, Option.bind_some, if_pos rfl, twin_eq _ _ _ _ _ _ _ (by omega), Option.bind_some]
  simp only []
  rw [if_neg (by decide), if_pos trivial, top_eq _ _ _ _ _ _ _ (by omega) (by omega) (by omega), Option.bind_some, decide_eq_true hX, sender_Tick.j0, if_pos rfl, top_eq _ _ _ _ _ _ _ (by omega) (by omega) (by omega), Option.bind_some,
    pieces_eq k (by omega) _ _ _ _ _ _ _ (by omega) _ _ (by omega) (by omega) (by unfold mn; split <;> omega), Option.bind_some, Option.bind_some]
theorem tick_j0 (k : Nat) (N : Int) (l : List Int) (R : Bool) (B X W : Int) (h : RS N l.length R B X W) (hX : ¬ (R = true ∧ X < mn (B + 7) (cnt l.length))) :
    sender_Tick.f k N l R B X W false = sender_Tick.j0 k false N l R B X W false := by
  have hL := h.2.1
  have hB := h.2.2.2.2.1
  unfold sender_Tick.f
  rw [scheck, if_pos h, Option.bind_some, if_pos rfl, twin_eq _ _ _ _ _ _ _ (by omega), Option.bind_some]
  simp only []
  rw [if_neg (by decide)]
  cases R
  · rw [if_neg (by decide)]
  · rw [if_pos rfl, top_eq _ _ _ _ _ _ _ (by omega) (by omega) (by omega), Option.bind_some, decide_eq_false (fun hh => hX ⟨rfl, hh⟩)]
theorem tick_waits (k : Nat) (hk : 1 ≤ k) (N : Int) (l : List Int) (R : Bool) (B X W : Int) (h : RS N l.length R B X W) (hX : ¬ (R = true ∧ X < mn (B + 7) (cnt l.length))) (hW : 0 < W) :
    sender_Tick.f k N l R B X W false = some (N, l, R, B, X, W - 1, false, [], 0) := by
  have hW2 := h.2.2.1
  rw [tick_j0 k N l R B X W h hX]
  obtain ⟨k, rfl⟩ : ∃ m, k = m + 1 := ⟨k - 1, by omega⟩
  rw [sender_Tick.j0, if_neg (by decide), if_pos hW, wraps64 _ (by omega) (by omega)]
theorem tick_asks (k : Nat) (hk : 1 ≤ k) (N : Int) (l : List Int) (R : Bool) (B X W : Int) (h : RS N l.length R B X W) (hX : ¬ (R = true ∧ X < mn (B + 7) (cnt l.length))) (hW : W = 0) :
    sender_Tick.f k N l R B X W false = some (if B < cnt l.length then (N, l, false, 0, 0, 3, false, [⟨1, N, l.length, 0, []⟩], 0) else (N, l, R, B, X, 3, false, [⟨1, N, l.length, 0, []⟩], 0)) := by
  have hL := h.2.1
  rw [tick_j0 k N l R B X W h hX]
  obtain ⟨k, rfl⟩ : ∃ m, k = m + 1 := ⟨k - 1, by omega⟩
  rw [sender_Tick.j0, if_neg (by decide), if_neg (by omega), count_eq (by omega) (by omega), Option.bind_some]
  split <;> rfl
end Go.Proofs.Ytlbajfhioebphaa.FA
