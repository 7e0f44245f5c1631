/- Stuff, Bytes, Twin and wakes as plain facts. -/
import Derived.Test.YtmfobcheeekmfaaDots2
import Derived.Test.YtmfobcheeekmfaaNums
namespace Go.Proofs.Ytmfobcheeekmfaa.FA
set_option linter.unusedSimpArgs false
set_option linter.unnecessarySimpa false
set_option linter.unusedVariables false
open Go.RowKit Go.Proofs.YtmfobcheeekmfaaW.PrintWords Go.Proofs.YtmfobcheeekmfaaW.PrintLast Go.Proofs.YtmfobcheeekmfaaW.PrintMore Go.Proofs.Ytmfobcheeekmfaa.Nums

theorem keep_bytes_l0 (xs ys : List Int) (hl : xs.length = ys.length) (hn : xs.length < 2 ^ 62) : ∀ (j k i : Nat), i ≤ xs.length → xs.length - i = j → j < k →
    wherrykeep_Bytes.l0 k xs ys i = some (decide (xs.drop i = ys.drop i)) := by
  intro j
  induction j with
  | zero =>
    intro k i hi hj hk
    obtain ⟨k, rfl⟩ : ∃ m, k = m + 1 := ⟨k - 1, by omega⟩
    simp only [wherrykeep_Bytes.l0]
    rw [if_neg (by omega), List.drop_of_length_le (by omega), List.drop_of_length_le (by omega)]
    rfl
  | succ j ih =>
    intro k i hi hj hk
    obtain ⟨k, rfl⟩ : ∃ m, k = m + 1 := ⟨k - 1, by omega⟩
    simp only [wherrykeep_Bytes.l0]
    have h1 : i < xs.length := by omega
    have h2 : i < ys.length := by omega
    have e1 : rd xs (i : Int) = xs[i] := by simp [rd, h1]
    have e2 : rd ys (i : Int) = ys[i] := by simp [rd, h2]
    rw [if_pos (by omega), if_pos (by omega), if_pos (by omega), e1, e2, List.drop_eq_getElem_cons h1, List.drop_eq_getElem_cons h2]
    by_cases h : xs[i] = ys[i]
    · rw [if_pos h, wraps64 _ (by omega) (by omega), show (i : Int) + 1 = ((i + 1 : Nat) : Int) by omega, ih k (i + 1) (by omega) (by omega) (by omega)]
      congr 1
      exact decide_eq_decide.2 ⟨fun e => by rw [h, e], fun e => (List.cons.inj e).2⟩
    · rw [if_neg h]
      congr 1
      symm
      exact decide_eq_false (fun e => h (List.cons.inj e).1)
theorem keep_bytes (xs ys : List Int) (hn : xs.length < 2 ^ 62) (k : Nat) (hk : xs.length < k) : wherrykeep_Bytes.f k xs ys = some (decide (xs = ys)) := by
  unfold wherrykeep_Bytes.f
  by_cases h : xs.length = ys.length
  · rw [if_pos (by omega)]
    have := keep_bytes_l0 xs ys h hn xs.length k 0 (by omega) (by omega) hk
    rw [List.drop_zero, List.drop_zero] at this
    exact this
  · rw [if_neg (by omega)]
    congr 1
    symm
    exact decide_eq_false (fun e => h (by rw [e]))

theorem wakes_eq (k : Nat) (hk : 60 ≤ k) : wherrylaw14_wakes.f k = some true := by
  have h0 : wherrylaw14_wakes.f 60 = some true := by decide +kernel
  have h : ∀ j, wherrylaw14_wakes.f (60 + j) = some true := by
    intro j
    induction j with
    | zero => exact h0
    | succ j ih => exact wherrylaw14_wakes.mono (60 + j) true ih
  have := h (k - 60)
  rwa [show 60 + (k - 60) = k by omega] at this
theorem twin_eq (l : List Int) (h : l.length < 140737488355328) : wherrykeep_Twin.f l = some l := by
  unfold wherrykeep_Twin.f
  rw [if_pos (by simpa using h), List.nil_append]
theorem prefix_eq (b p : List Int) (hb : By b) (hp : By p) : bytes_HasPrefix.f b p = some (p.isPrefixOf b) := by
  unfold bytes_HasPrefix.f
  by_cases h : (b.length : Int) ≥ (p.length : Int)
  · rw [if_pos h, if_pos (by omega), if_pos (by omega), Int.toNat_natCast, equal_eq _ _ (fun x hx => hb x (List.mem_of_mem_take hx)) hp, Option.bind_some]
    congr 1
    rw [Bool.eq_iff_iff, beq_iff_eq, List.isPrefixOf_iff_prefix, List.prefix_iff_eq_take]
    exact eq_comm
  · rw [if_neg h]
    congr 1
    symm
    rw [← Bool.not_eq_true, List.isPrefixOf_iff_prefix]
    intro hq
    have := hq.length_le
    omega
def st (l : List Int) : List Int := if [46].isPrefixOf l then 46 :: l else l
theorem st_len (l : List Int) : (st l).length ≤ l.length + 1 := by unfold st; split <;> simp
theorem by_dot : By [46] := fun x hx => by simp at hx; omega
theorem st_by {l : List Int} (h : By l) : By (st l) := by
  unfold st
  split
  · exact by_dot.app h
  · exact h
theorem st_cl {l : List Int} (h : Cl l) : Cl (st l) := by
  unfold st
  split
  · intro x hx
    rcases List.mem_cons.1 hx with rfl | hx
    · decide
    · exact h x hx
  · exact h
theorem join_st_len (ls : List (List Int)) : (join (ls.map st)).length ≤ 2 * (join ls).length := by
  induction ls with
  | nil => simp [join]
  | cons l ls ih => rw [List.map_cons, join_cons, join_cons]; have := st_len l; simp; omega
theorem stuff_l0 (k : Nat) : ∀ (b a : List (List Int)) (acc : List Int), (∀ l ∈ b, By l) → (a ++ b).length < 4294967281 → acc.length + 2 * (join b).length + 3 < 140737488355328 →
    dots_Stuff.l0 (k + b.length + 1) acc (a ++ b) ((a ++ b).length : Int) (a.length : Int) = some (acc ++ join (b.map st) ++ [46, 13, 10], 0)
  | [], a, acc, _, _, hacc => by
    rw [dots_Stuff.l0, if_neg (by simp), if_pos (by omega), Option.bind_some]
    simp only [dots_end.f, Option.bind_some]
    rw [if_pos (by simp; omega)]
    simp [join]
  | l :: b, a, acc, hb, hl, hacc => by
    have hlen : (a ++ l :: b).length = a.length + 1 + b.length := by simp; omega
    have hj : (join (l :: b)).length = l.length + 2 + (join b).length := by rw [join_cons]; simp; omega
    have ih := fun acc' h => stuff_l0 k b (a ++ [l]) acc' (fun y hy => hb y (List.mem_cons_of_mem _ hy)) (by simp at hl ⊢; omega) h
    rw [show a ++ [l] ++ b = a ++ l :: b by simp, show (((a ++ [l]).length : Nat) : Int) = (a.length : Int) + 1 by simp] at ih
    rw [show k + (l :: b).length + 1 = (k + b.length + 1) + 1 by simp; omega, dots_Stuff.l0, if_pos (by omega), if_pos (by omega), if_pos (by omega), rd_L1_mid, prefix_eq _ _ (hb l List.mem_cons_self) by_dot, Option.bind_some]
    simp only [dots_end.f, Option.bind_some]
    rw [w64 _ (by omega) (by omega), List.map_cons, join_cons]
    by_cases hp : [46].isPrefixOf l = true
    · rw [if_pos hp, if_pos (by omega), if_pos (by simp; omega), if_pos (by simp; omega), ih _ (by simp; omega)]
      simp [st, hp]
    · rw [if_neg hp, if_pos (by omega), if_pos (by simp; omega), ih _ (by simp; omega)]
      simp [st, hp]
theorem stuff_no (k : Nat) (b : List Int) (hb : By b) (hl : b.length < 100000) (hk : b.length + 3 ≤ k) (h : au b 0 = false) : dots_Stuff.f k b = some ([], 5) := by
  unfold dots_Stuff.f
  rw [check_eq k b hb hl hk, Option.bind_some, h]
  rfl
def stuff (ls : List (List Int)) : List Int := join (ls.map st) ++ [46, 13, 10]
theorem stuff_yes (k : Nat) (ls : List (List Int)) (hc : ∀ l ∈ ls, Cl l) (hb : By (join ls)) (hl : (join ls).length < 100000) (hk : (join ls).length + 3 ≤ k) : dots_Stuff.f k (join ls) = some (stuff ls, 0) := by
  have hj := join_len ls
  unfold dots_Stuff.f
  rw [check_eq k _ hb hl hk, Option.bind_some, au_body ls hc, if_pos rfl, if_pos rfl, lines_body k ls hc hb (by omega) (by omega), Option.bind_some]
  obtain ⟨m, rfl⟩ : ∃ m, k = m + ls.length + 1 := ⟨k - ls.length - 1, by omega⟩
  have := stuff_l0 m ls [] [] (join_by hb) (by simp; omega) (by simp; omega)
  simpa [stuff] using this
end Go.Proofs.Ytmfobcheeekmfaa.FA
