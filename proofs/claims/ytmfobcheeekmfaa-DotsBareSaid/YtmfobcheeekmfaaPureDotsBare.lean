/- DotsBare: what it computes is true. -/
import Derived.Test.YtmfobcheeekmfaaDots3
import Derived.Test.YtmfobcheeekmfaaSayDotsBare
namespace Go.Proofs.Ytmfobcheeekmfaa.FA
set_option linter.unusedSimpArgs false
set_option linter.unnecessarySimpa false
set_option linter.unusedVariables false
open Go.RowKit Go.Proofs.YtmfobcheeekmfaaW.PrintWords Go.Proofs.YtmfobcheeekmfaaW.PrintLast Go.Proofs.YtmfobcheeekmfaaW.PrintMore Go.Proofs.Ytmfobcheeekmfaa.Nums

theorem rd_mid (p : List Int) (x : Int) (r : List Int) : rd (p ++ x :: r) (p.length : Int) = x := by simp [rd]
theorem bare_l0 (k : Nat) (x1 : List Int) (x2 : Int) : ∀ (r p : List Int), Cl p → (p ++ r).length ≤ 2000 →
    wherrylaw14_DotsBare.l0 (k + r.length + 1) (p ++ r) x1 x2 (p.length : Int) = some true ∨ (Cl (p ++ r) ∧ wherrylaw14_DotsBare.l0 (k + r.length + 1) (p ++ r) x1 x2 (p.length : Int) = wherrylaw14_DotsBare.l1 k (p ++ r) x1 x2 0)
  | [], p, hp, hl => by
    rw [wherrylaw14_DotsBare.l0, if_neg (by simp)]
    exact .inr ⟨by simpa using hp, rfl⟩
  | x :: r, p, hp, hl => by
    have hlen : (p ++ x :: r).length = p.length + 1 + r.length := by simp; omega
    rw [show k + (x :: r).length + 1 = (k + r.length + 1) + 1 by simp; omega, wherrylaw14_DotsBare.l0, if_pos (by omega), if_pos (by omega), rd_mid]
    by_cases h1 : x = 13
    · rw [if_pos h1]; exact .inl rfl
    rw [if_neg h1]
    by_cases h2 : x = 10
    · rw [if_pos h2]; exact .inl rfl
    rw [if_neg h2, w64 _ (by omega) (by omega)]
    have := bare_l0 k x1 x2 r (p ++ [x]) (fun y hy => by
      rcases List.mem_append.1 hy with hy | hy
      · exact hp y hy
      · rw [List.mem_singleton.1 hy]; exact ⟨h1, h2⟩) (by simp at hl ⊢; omega)
    rw [show p ++ [x] ++ r = p ++ x :: r by simp, show (((p ++ [x]).length : Nat) : Int) = (p.length : Int) + 1 by simp] at this
    exact this
theorem bare_l1 (k : Nat) (x0 : List Int) (x2 : Int) : ∀ (r p : List Int), Cl p → (p ++ r).length ≤ 2000 →
    wherrylaw14_DotsBare.l1 (k + r.length + 1) x0 (p ++ r) x2 (p.length : Int) = some true ∨ (Cl (p ++ r) ∧ wherrylaw14_DotsBare.l1 (k + r.length + 1) x0 (p ++ r) x2 (p.length : Int) = wherrylaw14_DotsBare.l1 (k + 1) x0 (p ++ r) x2 ((p ++ r).length : Int))
  | [], p, hp, hl => by
    refine .inr ⟨by simpa using hp, ?_⟩
    simp
  | x :: r, p, hp, hl => by
    have hlen : (p ++ x :: r).length = p.length + 1 + r.length := by simp; omega
    rw [show k + (x :: r).length + 1 = (k + r.length + 1) + 1 by simp; omega]
    have hs : wherrylaw14_DotsBare.l1 (k + r.length + 1 + 1) x0 (p ++ x :: r) x2 (p.length : Int) = if x = 13 then some true else if x = 10 then some true else wherrylaw14_DotsBare.l1 (k + r.length + 1) x0 (p ++ x :: r) x2 ((p.length : Int) + 1) := by
      rw [wherrylaw14_DotsBare.l1, if_pos (by omega), if_pos (by omega), rd_mid, w64 _ (by omega) (by omega)]
    rw [hs]
    by_cases h1 : x = 13
    · rw [if_pos h1]; exact .inl rfl
    rw [if_neg h1]
    by_cases h2 : x = 10
    · rw [if_pos h2]; exact .inl rfl
    rw [if_neg h2]
    have := bare_l1 k x0 x2 r (p ++ [x]) (fun y hy => by
      rcases List.mem_append.1 hy with hy | hy
      · exact hp y hy
      · rw [List.mem_singleton.1 hy]; exact ⟨h1, h2⟩) (by simp at hl ⊢; omega)
    rw [show p ++ [x] ++ r = p ++ x :: r by simp, show (((p ++ [x]).length : Nat) : Int) = (p.length : Int) + 1 by simp] at this
    exact this
theorem au_10 (a r : List Int) (h : Cl a) : au (a ++ 10 :: r) 0 = false := by
  rw [au_clean a _ 0 h (by decide)]
  by_cases e : a = [] <;> simp [e, au]
theorem au_13 (a r : List Int) (y : Int) (h : Cl a) (hy : y ≠ 10) : au (a ++ 13 :: y :: r) 0 = false := by
  rw [au_clean a _ 0 h (by decide)]
  by_cases e : a = [] <;> simp [e, au, hy]
theorem au_open (a : List Int) (x : Int) (h : Cl a) (hx : x ≠ 13 ∧ x ≠ 10) : au (a ++ [x]) 0 = false := by
  rw [au_clean a _ 0 h (by decide)]
  by_cases e : a = [] <;> simp [e, au, hx]
theorem bare_end (k : Nat) (hk : 10000 ≤ k) (a b : List Int) (n : Int) (ha : Cl a) (hb : Cl b) (hla : a.length ≤ 2000) (hlb : b.length ≤ 2000) (ya : By a) (yb : By b) : wherrylaw14_DotsBare.l1 (k + 1) a b n (b.length : Int) = some true := by
  have no : ∀ x : List Int, By x → x.length ≤ 4100 → au x 0 = false → ∀ (P : List Int × Int → Option Bool), P = P → dots_Stuff.f k x = some ([], 5) ∧ dots_Check.f k x = some 5 := fun x hx hl h _ _ =>
    ⟨stuff_no k x hx (by omega) (by omega) h, by rw [check_eq k x hx (by omega) (by omega), h]; rfl⟩
  have b13 : By [13] := fun x hx => by simp at hx; omega
  have b10 : By [10] := fun x hx => by simp at hx; omega
  have b120 : By [120] := fun x hx => by simp at hx; omega
  have br : By [10, 13] := fun x hx => by simp at hx; omega
  rw [wherrylaw14_DotsBare.l1, if_neg (by omega), twin_eq _ (by omega), Option.bind_some]
  by_cases c0 : Int.tmod (IntKind.u64.wrap n) 4 = 0
  · rw [if_pos c0, if_pos (by omega), Option.bind_some, if_pos (by simp; omega), Option.bind_some, Option.bind_some, if_pos (by simp; omega), Option.bind_some]
    rcases b with _ | ⟨y, b⟩
    · simp [wakes_eq k (show 60 ≤ k by omega)]
    · rw [if_neg (by simp; omega)]
      have h := no (a ++ [13] ++ (y :: b) ++ [13, 10]) (((ya.app b13).app yb).app by_crlf) (by simp at hlb ⊢; omega) (by
        rw [show a ++ [13] ++ (y :: b) ++ [13, 10] = a ++ 13 :: y :: (b ++ [13, 10]) by simp]
        exact au_13 a _ y ha hb.head.2) (fun _ => none) rfl
      rw [h.1, Option.bind_some, h.2, Option.bind_some]; simp [wakes_eq k (show 60 ≤ k by omega)]
  rw [if_neg c0]
  by_cases c1 : Int.tmod (IntKind.u64.wrap n) 4 = 1
  · rw [if_pos c1, if_pos (by omega), Option.bind_some, if_pos (by simp; omega), Option.bind_some, Option.bind_some, if_pos (by simp; omega), Option.bind_some]
    have h := no (a ++ [10] ++ b ++ [13, 10]) (((ya.app b10).app yb).app by_crlf) (by simp; omega) (by
        rw [show a ++ [10] ++ b ++ [13, 10] = a ++ 10 :: (b ++ [13, 10]) by simp]
        exact au_10 a _ ha) (fun _ => none) rfl
    rw [h.1, Option.bind_some, h.2, Option.bind_some]; simp [wakes_eq k (show 60 ≤ k by omega)]
  rw [if_neg c1]
  by_cases c2 : Int.tmod (IntKind.u64.wrap n) 4 = 2
  · rw [if_pos c2, Option.bind_some, if_pos (by simp; omega), Option.bind_some, if_pos (by simp; omega), Option.bind_some, if_pos (by simp; omega), Option.bind_some]
    have h := no (a ++ [13, 10] ++ b ++ [120]) (((ya.app by_crlf).app yb).app b120) (by simp; omega) (by
        rw [show a ++ [13, 10] ++ b ++ [120] = a ++ 13 :: 10 :: (b ++ [120]) by simp, au_line _ _ ha]
        exact au_open b 120 hb (by decide)) (fun _ => none) rfl
    rw [h.1, Option.bind_some, h.2, Option.bind_some]; simp [wakes_eq k (show 60 ≤ k by omega)]
  rw [if_neg c2, Option.bind_some, if_pos (by simp; omega), Option.bind_some, if_pos (by simp; omega), Option.bind_some, Option.bind_some, if_pos (by simp; omega), Option.bind_some]
  have h := no (a ++ [10, 13] ++ b ++ [13, 10]) (((ya.app br).app yb).app by_crlf) (by simp; omega) (by
      rw [show a ++ [10, 13] ++ b ++ [13, 10] = a ++ 10 :: (13 :: b ++ [13, 10]) by simp]
      exact au_10 a _ ha) (fun _ => none) rfl
  rw [h.1, Option.bind_some, h.2, Option.bind_some]; simp [wakes_eq k (show 60 ≤ k by omega)]
end Go.Proofs.Ytmfobcheeekmfaa.FA
namespace Go.Proofs.Ytmfobcheeekmfaa.Pure
open Go.RowKit Go.Proofs.Ytmfobcheeekmfaa.FA
theorem DotsBare : wherrylaw14_DotsBare.Pure := by
  intro a b n _ wa _ wb _
  have ya := By.of_wf wa
  have yb := By.of_wf wb
  refine ⟨10000 + b.length + 1 + a.length + 1 + 1, ?_⟩
  unfold wherrylaw14_DotsBare.f
  by_cases h1 : (a.length : Int) > 2000
  · rw [if_pos h1, wherrylaw14_DotsBare.j0, if_pos rfl]
  rw [if_neg h1, wherrylaw14_DotsBare.j0]
  by_cases h2 : (b.length : Int) > 2000
  · rw [decide_eq_true h2, if_pos rfl]
  rw [decide_eq_false h2, if_neg (by decide)]
  rcases bare_l0 (10000 + b.length + 1) b n a [] Cl.nil (by simp; omega) with h | ⟨ha, h⟩
  · simpa using h
  have h' := h
  simp only [List.nil_append, List.length_nil] at ha h'
  rw [show ((0 : Nat) : Int) = 0 by rfl] at h'
  rw [h']
  rcases bare_l1 10000 a n b [] Cl.nil (by simp; omega) with h | ⟨hb, h⟩
  · simpa using h
  simp only [List.nil_append, List.length_nil] at hb h
  rw [show ((0 : Nat) : Int) = 0 by rfl] at h
  rw [h]
  exact bare_end 10000 (by omega) a b n ha hb (by omega) (by omega) ya yb
end Go.Proofs.Ytmfobcheeekmfaa.Pure
