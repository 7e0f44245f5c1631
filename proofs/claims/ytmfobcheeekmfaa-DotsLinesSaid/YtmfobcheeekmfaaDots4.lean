/- Last and Strip as plain facts. -/
import Derived.Test.YtmfobcheeekmfaaDots3
namespace Go.Proofs.Ytmfobcheeekmfaa.FA
set_option linter.unusedSimpArgs false
set_option linter.unnecessarySimpa false
set_option linter.unusedVariables false
open Go.RowKit Go.Proofs.YtmfobcheeekmfaaW.PrintWords Go.Proofs.YtmfobcheeekmfaaW.PrintLast Go.Proofs.YtmfobcheeekmfaaW.PrintMore Go.Proofs.Ytmfobcheeekmfaa.Nums

def P5 : List Int := [13, 10, 46, 13, 10]
theorem skip1 (x : Int) (r : List Int) (h : x ≠ 13) : ix P5 (x :: r) = if ix P5 r = -1 then -1 else ix P5 r + 1 := by
  rw [ix, if_neg]
  simp [P5, List.isPrefixOf]
  exact fun e => absurd e.symm h
theorem skip_line : ∀ (l r : List Int), Cl l → ix P5 (l ++ r) = if ix P5 r = -1 then -1 else ix P5 r + l.length
  | [], r, _ => by
    rw [List.nil_append]
    split
    · assumption
    · simp
  | x :: l, r, h => by
    rw [List.cons_append, skip1 x _ h.head.1, skip_line l r h.tail]
    have := ix_ge P5 r
    by_cases e : ix P5 r = -1
    · simp [e]
    · rw [if_neg e, if_neg e, if_neg (by omega)]
      simp
      omega
theorem crlf_no (r : List Int) (h : [46, 13, 10].isPrefixOf r = false) : ix P5 (13 :: 10 :: r) = if ix P5 r = -1 then -1 else ix P5 r + 2 := by
  have e : P5.isPrefixOf (13 :: 10 :: r) = false := by simpa [P5, List.isPrefixOf] using h
  rw [ix, e, if_neg (by decide), skip1 10 r (by decide)]
  have := ix_ge P5 r
  by_cases e : ix P5 r = -1
  · simp [e]
  · rw [if_neg e, if_neg e, if_neg (by omega)]
    omega
theorem crlf_yes (r : List Int) (h : [46, 13, 10].isPrefixOf r = true) : ix P5 (13 :: 10 :: r) = 0 := by
  have e : P5.isPrefixOf (13 :: 10 :: r) = true := by simpa [P5, List.isPrefixOf] using h
  rw [ix, if_pos e]
def Nd (l : List Int) : Prop := Cl l ∧ l ≠ [46]
theorem st_nd {l : List Int} (h : Cl l) : Nd (st l) := by
  refine ⟨st_cl h, ?_⟩
  unfold st
  split
  · intro e
    have : l = [] := by simpa using e
    subst this
    rename_i hp
    simp [List.isPrefixOf] at hp
  · rintro rfl
    rename_i hp
    exact hp rfl
theorem pre_no : ∀ (g r : List Int), Nd g → [46, 13, 10].isPrefixOf (g ++ 13 :: 10 :: r) = false
  | [], r, _ => by simp [List.isPrefixOf]
  | [x], r, h => by
    have : x ≠ 46 := fun e => h.2 (by rw [e])
    simp [List.isPrefixOf]
    exact fun e => absurd e.symm this
  | x :: y :: g, r, h => by
    have := h.1.tail.head.1
    simp [List.isPrefixOf]
    intro _ e
    exact absurd e.symm this
theorem find_yes (more : List Int) : ∀ gs : List (List Int), (∀ g ∈ gs, Nd g) → ix P5 (13 :: 10 :: (join gs ++ 46 :: 13 :: 10 :: more)) = ((join gs).length : Int)
  | [], _ => by rw [crlf_yes _ (by simp [join, List.isPrefixOf])]; simp [join]
  | g :: gs, h => by
    rw [show join (g :: gs) ++ 46 :: 13 :: 10 :: more = g ++ 13 :: 10 :: (join gs ++ 46 :: 13 :: 10 :: more) by simp [join_cons], crlf_no _ (pre_no g _ (h g List.mem_cons_self)), skip_line g _ (h g List.mem_cons_self).1,
      find_yes more gs (fun y hy => h y (List.mem_cons_of_mem _ hy)), if_neg (by omega), if_neg (by omega), join_cons]
    simp
    omega
theorem find_no : ∀ gs : List (List Int), (∀ g ∈ gs, Nd g) → ix P5 (13 :: 10 :: (join gs ++ [46, 13])) = -1
  | [], _ => by decide
  | g :: gs, h => by
    rw [show join (g :: gs) ++ [46, 13] = g ++ 13 :: 10 :: (join gs ++ [46, 13]) by simp [join_cons], crlf_no _ (pre_no g _ (h g List.mem_cons_self)), skip_line g _ (h g List.mem_cons_self).1,
      find_no gs (fun y hy => h y (List.mem_cons_of_mem _ hy)), if_pos rfl, if_pos rfl]
theorem by_p5 : By [13, 10, 46, 13, 10] := fun x hx => by simp at hx; omega
theorem by_p3 : By [46, 13, 10] := fun x hx => by simp at hx; omega
theorem last_yes (gs : List (List Int)) (more : List Int) (h : ∀ g ∈ gs, Nd g) (hb : By (join gs ++ 46 :: 13 :: 10 :: more)) (hl : (join gs ++ 46 :: 13 :: 10 :: more).length < 4294967281) :
    dots_Last.f (join gs ++ 46 :: 13 :: 10 :: more) = some (((join gs).length : Int), true) := by
  unfold dots_Last.f
  rw [prefix_eq _ _ hb by_p3, Option.bind_some]
  rcases gs with _ | ⟨g, gs⟩
  · rw [if_pos (by simp [join, List.isPrefixOf])]; rfl
  · have e : join (g :: gs) ++ 46 :: 13 :: 10 :: more = g ++ 13 :: 10 :: (join gs ++ 46 :: 13 :: 10 :: more) := by simp [join_cons]
    have hh := find_yes more gs (fun y hy => h y (List.mem_cons_of_mem _ hy))
    rw [index_eq _ _ hb by_p5 hl (by decide) (by decide), Option.bind_some]
    rw [e] at hl ⊢
    rw [if_neg (by rw [pre_no g _ (h g List.mem_cons_self)]; decide)]
    have := skip_line g (13 :: 10 :: (join gs ++ 46 :: 13 :: 10 :: more)) (h g List.mem_cons_self).1
    rw [hh, if_neg (by omega)] at this
    rw [show ([13, 10, 46, 13, 10] : List Int) = P5 from rfl, this, join_cons]
    simp at hl ⊢
    refine ⟨?_, by omega⟩
    rw [w64 _ (by omega) (by omega)]
    omega
theorem last_no (gs : List (List Int)) (h : ∀ g ∈ gs, Nd g) (hb : By (join gs ++ [46, 13])) (hl : (join gs ++ [46, 13]).length < 4294967281) : ∃ n, dots_Last.f (join gs ++ [46, 13]) = some (n, false) := by
  unfold dots_Last.f
  rw [prefix_eq _ _ hb by_p3, Option.bind_some, index_eq _ _ hb by_p5 hl (by decide) (by decide), Option.bind_some]
  rcases gs with _ | ⟨g, gs⟩
  · exact ⟨_, rfl⟩
  · have e : join (g :: gs) ++ [46, 13] = g ++ 13 :: 10 :: (join gs ++ [46, 13]) := by simp [join_cons]
    have hh := find_no gs (fun y hy => h y (List.mem_cons_of_mem _ hy))
    rw [e, if_neg (by rw [pre_no g _ (h g List.mem_cons_self)]; decide)]
    have := skip_line g (13 :: 10 :: (join gs ++ [46, 13])) (h g List.mem_cons_self).1
    rw [hh, if_pos rfl] at this
    rw [show ([13, 10, 46, 13, 10] : List Int) = P5 from rfl, this]
    exact ⟨_, rfl⟩
theorem trim_eq (l : List Int) (hb : By l) : bytes_TrimPrefix.f (st l) [46] = some l := by
  unfold bytes_TrimPrefix.f
  rw [prefix_eq _ _ (st_by hb) by_dot, Option.bind_some]
  by_cases h : [46].isPrefixOf l = true
  · have e : st l = 46 :: l := by unfold st; rw [if_pos h]
    rw [e, if_pos (by simp [List.isPrefixOf]), if_pos (by simp), if_pos (by simp; omega)]
    simp
  · have e : st l = l := by unfold st; rw [if_neg h]
    rw [e, if_neg h]
theorem strip_l0 (k : Nat) (at_ : Int) : ∀ (b : List (List Int)) (a : List (List Int)) (acc : List Int), (∀ l ∈ b, By l) → (a ++ b.map st).length < 4294967281 → acc.length + (join b).length < 140737488355328 →
    dots_Strip.l0 (k + b.length + 1) acc at_ (a ++ b.map st) ((a ++ b.map st).length : Int) (a.length : Int) = some (acc ++ join b, wrap64 (at_ + 3), 0)
  | [], a, acc, _, _, hacc => by
    rw [dots_Strip.l0, if_neg (by simp)]
    simp [join]
  | l :: b, a, acc, hb, hl, hacc => by
    have hlen : (a ++ (l :: b).map st).length = a.length + 1 + b.length := by simp; omega
    have hj : (join (l :: b)).length = l.length + 2 + (join b).length := by rw [join_cons]; simp; omega
    have ih := fun acc' h => strip_l0 k at_ b (a ++ [st l]) acc' (fun y hy => hb y (List.mem_cons_of_mem _ hy)) (by simp at hl ⊢; omega) h
    rw [show a ++ [st l] ++ b.map st = a ++ (l :: b).map st by simp, show (((a ++ [st l]).length : Nat) : Int) = (a.length : Int) + 1 by simp] at ih
    rw [show k + (l :: b).length + 1 = (k + b.length + 1) + 1 by simp; omega, dots_Strip.l0, if_pos (by omega), if_pos (by omega), if_pos (by omega),
      show rd_L1 (a ++ (l :: b).map st) (a.length : Int) = st l by rw [List.map_cons, rd_L1_mid], trim_eq l (hb l List.mem_cons_self), Option.bind_some]
    simp only [dots_end.f, Option.bind_some]
    rw [w64 (_ + 1) (by omega) (by omega), join_cons, if_pos (by omega), if_pos (by simp; omega), ih _ (by simp; omega)]
    simp
theorem by_join_st {ls : List (List Int)} (h : By (join ls)) : By (join (ls.map st)) := by
  have hl := join_by h
  clear h
  induction ls with
  | nil => exact fun x hx => by cases hx
  | cons l ls ih =>
    rw [List.map_cons, join_cons]
    have := ih (fun y hy => hl y (List.mem_cons_of_mem _ hy))
    exact (st_by (hl l List.mem_cons_self)).app (by_crlf.app this)
theorem stuff_by {ls : List (List Int)} (h : By (join ls)) : By (stuff ls) := (by_join_st h).app by_p3
theorem stuff_len (ls : List (List Int)) : (stuff ls).length = (join (ls.map st)).length + 3 := by simp [stuff]
theorem strip_yes (k : Nat) (ls : List (List Int)) (more : List Int) (hc : ∀ l ∈ ls, Cl l) (hb : By (join ls)) (hm : By more) (hl : (join ls).length < 20000) (hml : more.length < 20000) (hk : (join (ls.map st)).length + 3 ≤ k) :
    dots_Strip.f k (stuff ls ++ more) = some (join ls, ((stuff ls).length : Int), 0) := by
  have e : stuff ls ++ more = join (ls.map st) ++ 46 :: 13 :: 10 :: more := by simp [stuff]
  have hjs := join_st_len ls
  have hj2 := join_len (ls.map st)
  have hlen : (join (ls.map st) ++ 46 :: 13 :: 10 :: more).length = (join (ls.map st)).length + 3 + more.length := by simp; omega
  have hbj := by_join_st hb
  have hby : By (join (ls.map st) ++ 46 :: 13 :: 10 :: more) := by rw [← e]; exact (stuff_by hb).app hm
  have hst : ∀ g ∈ ls.map st, Nd g := by
    intro g hg
    obtain ⟨l, hl, rfl⟩ := List.mem_map.1 hg
    exact st_nd (hc l hl)
  have htk : (join (ls.map st) ++ 46 :: 13 :: 10 :: more).take (join (ls.map st)).length = join (ls.map st) := List.take_left
  unfold dots_Strip.f
  rw [e, last_yes _ more hst hby (by omega), Option.bind_some]
  simp only []
  rw [if_pos trivial, if_pos (by omega), if_pos (by omega), Int.toNat_natCast, htk, check_eq k _ hbj (by omega) hk, au_body _ (fun g hg => (hst g hg).1), Option.bind_some, if_pos rfl, if_pos rfl,
    lines_body k _ (fun g hg => (hst g hg).1) hbj (by omega) (by omega), Option.bind_some]
  rw [List.length_map] at hj2
  obtain ⟨m, rfl⟩ : ∃ m, k = m + ls.length + 1 := ⟨k - ls.length - 1, by omega⟩
  have := strip_l0 m ((join (ls.map st)).length : Int) ls [] [] (join_by hb) (by simp; omega) (by simp; omega)
  rw [stuff_len]
  rw [w64 _ (by omega) (by omega)] at this
  simpa using this
end Go.Proofs.Ytmfobcheeekmfaa.FA
