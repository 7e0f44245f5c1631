/- DotsLines: what it computes is true. -/
import Derived.Test.YtmfobcheeekmfaaDots5
import Derived.Test.YtmfobcheeekmfaaSayDotsLines
namespace Go.Proofs.Ytmfobcheeekmfaa.FA
set_option linter.unusedSimpArgs false
set_option linter.unnecessarySimpa false
set_option linter.unusedVariables false
open Go.RowKit Go.Proofs.YtmfobcheeekmfaaW.PrintWords Go.Proofs.YtmfobcheeekmfaaW.PrintLast Go.Proofs.YtmfobcheeekmfaaW.PrintMore Go.Proofs.Ytmfobcheeekmfaa.Nums
theorem rd_one (l : List Int) (i : Nat) (h : i < l.length) : rd l (i : Int) = l[i] := by simp [rd, h]
theorem rd_L1_at (x : List (List Int)) (i : Nat) (h : i < x.length) : rd_L1 x (i : Int) = x[i] := by simp [rd_L1, h]
theorem lines_l2 (L : List (List Int)) (hl : L.length < 1000) (hb : ∀ y ∈ L, y.length ≤ 60) : ∀ (m k i : Nat), L.length - i = m → i ≤ L.length → m + 100 ≤ k → wherrylaw14_DotsLines.l2 k L L (i : Int) = some true
  | 0, k, i, hm, hi, hk => by
    obtain ⟨k, rfl⟩ : ∃ j, k = j + 1 := ⟨k - 1, by omega⟩
    rw [wherrylaw14_DotsLines.l2, if_neg (by omega), wakes_eq _ (by omega)]
    rfl
  | m + 1, k, i, hm, hi, hk => by
    obtain ⟨k, rfl⟩ : ∃ j, k = j + 1 := ⟨k - 1, by omega⟩
    have hlt : i < L.length := by omega
    have := hb _ (List.getElem_mem hlt)
    rw [wherrylaw14_DotsLines.l2, if_pos (by omega), if_pos (by omega), if_pos (by omega), rd_L1_at L i hlt, keep_bytes _ _ (by omega) _ (by omega), Option.bind_some, decide_eq_true rfl, if_pos rfl, w64 _ (by omega) (by omega)]
    exact lines_l2 L hl hb m k (i + 1) (by omega) (by omega) (by omega)
/-- Behind all lines. -/
theorem lines_end (L : List (List Int)) (hl : L.length ≤ 40) (hb : ∀ y ∈ L, y.length ≤ 60) (hc : ∀ y ∈ L, Cl y) (hy : By (join L)) (hj : (join L).length < 20000) (k : Nat) (hk : 50000 ≤ k) :
    wherrylaw14_DotsLines.l0 (k + 2) L (join L) (join (L.map st)) (L.length : Int) = some true := by
  have hs := join_st_len L
  have htl := stuff_len L
  have j2 : wherrylaw14_DotsLines.j2 (k + 1) L L false = some true := by
    rw [wherrylaw14_DotsLines.j2, if_neg (by decide)]
    exact lines_l2 L (by omega) hb _ k 0 rfl (by omega) (by omega)
  have hlj := join_len L
  rw [wherrylaw14_DotsLines.l0, if_neg (by omega), lines_body _ L hc hy (by omega) (by omega), Option.bind_some, stuff_yes _ L hc hy (by omega) (by omega), Option.bind_some, check_eq _ _ hy (by omega) (by omega), au_body L hc, Option.bind_some, if_pos rfl, if_pos rfl, if_pos rfl, if_pos rfl, Option.bind_some, if_pos (by simp <;> omega),
    show join (L.map st) ++ [46, 13, 10] = stuff L from rfl, keep_bytes (stuff L) (stuff L) (by omega) _ (by omega), Option.bind_some, decide_eq_true rfl]
  exact j2
/-- A line, from a place on. -/
theorem lines_l1 (L a b : List (List Int)) (l : List Int) (hL : L = a ++ l :: b) (hl : L.length ≤ 40) (h60 : l.length ≤ 60) (hja : (join a).length < 20000) (k : Nat) :
    ∀ (q p : List Int), l = p ++ q → Cl p →
      (Cl l → wherrylaw14_DotsLines.l1 (k + q.length + 1) L (join a) (join (a.map st)) (a.length : Int) (p.length : Int) = wherrylaw14_DotsLines.l0 k L (join (a ++ [l])) (join ((a ++ [l]).map st)) ((a.length : Int) + 1)) ∧
      (¬ Cl l → wherrylaw14_DotsLines.l1 (k + q.length + 1) L (join a) (join (a.map st)) (a.length : Int) (p.length : Int) = some true)
  | [], p, hp, hcp => by
    rw [List.append_nil] at hp
    subst hp
    refine ⟨fun _ => ?_, fun h => absurd hcp h⟩
    have hr : rd_L1 L (a.length : Int) = l := by rw [hL, rd_L1_mid]
    have hLl : L.length = a.length + 1 + b.length := by rw [hL]; simp; omega
    have hs := join_st_len a
    have e1 : join (a ++ [l]) = join a ++ l ++ [13, 10] := by rw [join_app, join_one, List.append_assoc]
    have e2 : join ((a ++ [l]).map st) = join (a.map st) ++ st l ++ [13, 10] := by rw [List.map_append, join_app, List.map_singleton, join_one, List.append_assoc]
    rw [e1, e2, List.length_nil, wherrylaw14_DotsLines.l1, hr, if_pos (by omega), if_pos (by omega), if_neg (by omega), if_pos (by omega), Option.bind_some, Option.bind_some, if_pos (by simp <;> omega), Option.bind_some, w64 ((a.length : Int) + 1) (by omega) (by omega)]
    rcases l with _ | ⟨x, l⟩
    · rw [if_neg (by simp), if_pos (by simp <;> omega), Option.bind_some, Option.bind_some, if_pos (by simp <;> omega)]
      simp [st, List.isPrefixOf]
    · rw [if_pos (by simp <;> omega), if_pos (by simp <;> omega)]
      have e0 : rd (x :: l) 0 = x := rfl
      rw [e0]
      simp only [List.length_cons] at h60
      by_cases hx : x = 46
      · rw [if_pos hx, if_pos (by omega), Option.bind_some, if_pos (by simp <;> omega), Option.bind_some, Option.bind_some, if_pos (by simp <;> omega)]
        simp [st, List.isPrefixOf, hx]
      · rw [if_neg hx, if_pos (by simp <;> omega), Option.bind_some, Option.bind_some, if_pos (by simp <;> omega)]
        simp [st, List.isPrefixOf, Ne.symm hx]
  | x :: q, p, hp, hcp => by
    have hlen : l.length = p.length + 1 + q.length := by rw [hp]; simp; omega
    have hr : rd_L1 L (a.length : Int) = l := by rw [hL, rd_L1_mid]
    have hLl : L.length = a.length + 1 + b.length := by rw [hL]; simp; omega
    have hx : rd l (p.length : Int) = x := by rw [hp, rd_at]
    have ih := lines_l1 L a b l hL hl h60 hja k q (p ++ [x]) (by rw [hp]; simp)
    rw [show k + (x :: q).length + 1 = (k + q.length + 1) + 1 by simp; omega, wherrylaw14_DotsLines.l1, hr, if_pos (by omega), if_pos (by omega), if_pos (by omega), if_pos (by omega), hx, w64 _ (by omega) (by omega)]
    rw [show (((p ++ [x]).length : Nat) : Int) = (p.length : Int) + 1 by simp] at ih
    by_cases h13 : x = 13
    · rw [if_pos h13]
      exact ⟨fun h => absurd h13 (h x (by rw [hp]; simp)).1, fun _ => rfl⟩
    · rw [if_neg h13]
      by_cases h10 : x = 10
      · rw [if_pos h10]
        exact ⟨fun h => absurd h10 (h x (by rw [hp]; simp)).2, fun _ => rfl⟩
      · rw [if_neg h10]
        refine ih (fun y hy => ?_)
        rcases List.mem_append.1 hy with hy | hy
        · exact hcp y hy
        · rw [List.mem_singleton.1 hy]; exact ⟨h13, h10⟩
theorem lines_go (L : List (List Int)) (hl : L.length ≤ 40) (hby : ∀ y ∈ L, By y) : ∀ (b a : List (List Int)) (k : Nat), L = a ++ b → (∀ y ∈ a, Cl y ∧ y.length ≤ 60) → 50002 + 62 * b.length ≤ k →
    wherrylaw14_DotsLines.l0 k L (join a) (join (a.map st)) (a.length : Int) = some true
  | [], a, k, hL, ha, hk => by
    rw [List.append_nil] at hL
    subst hL
    obtain ⟨k, rfl⟩ : ∃ j, k = j + 2 := ⟨k - 2, by omega⟩
    have hj : ∀ c : List (List Int), (∀ y ∈ c, y.length ≤ 60) → (join c).length ≤ 62 * c.length := by
      intro c
      induction c with
      | nil => intro _; simp [join]
      | cons l c ih => intro h; rw [join_cons]; have := ih (fun y hy => h y (List.mem_cons_of_mem _ hy)); have := h l List.mem_cons_self; simp; omega
    have hj' := hj L (fun y hy => (ha y hy).2)
    refine lines_end L hl (fun y hy => (ha y hy).2) (fun y hy => (ha y hy).1) ?_ (by omega) k (by simp at hk; omega)
    have : ∀ c : List (List Int), (∀ y ∈ c, By y) → By (join c) := by
      intro c
      induction c with
      | nil => intro _ x hx; cases hx
      | cons l c ih => intro h; rw [join_cons]; exact (h l List.mem_cons_self).app (by_crlf.app (ih (fun y hy => h y (List.mem_cons_of_mem _ hy))))
    exact this L hby
  | l :: b, a, k, hL, ha, hk => by
    have hr : rd_L1 L (a.length : Int) = l := by rw [hL, rd_L1_mid]
    have hLl : L.length = a.length + 1 + b.length := by rw [hL]; simp; omega
    have hj : ∀ c : List (List Int), (∀ y ∈ c, Cl y ∧ y.length ≤ 60) → (join c).length ≤ 62 * c.length := by
      intro c
      induction c with
      | nil => intro _; simp [join]
      | cons l c ih => intro h; rw [join_cons]; have := ih (fun y hy => h y (List.mem_cons_of_mem _ hy)); have := (h l List.mem_cons_self).2; simp; omega
    have hja := hj a ha
    obtain ⟨k, rfl⟩ : ∃ j, k = j + 1 := ⟨k - 1, by omega⟩
    simp only [List.length_cons] at hk
    rw [wherrylaw14_DotsLines.l0, if_pos (by omega), if_pos (by omega), hr]
    by_cases h60 : (l.length : Int) > 60
    · rw [if_pos h60]
    · rw [if_neg h60]
      obtain ⟨m, rfl⟩ : ∃ m, k = m + l.length + 1 := ⟨k - l.length - 1, by omega⟩
      have h1 := lines_l1 L a b l hL hl (by omega) (by omega) m l [] rfl Cl.nil
      by_cases hc : Cl l
      · have h2 := h1.1 hc
        rw [List.length_nil] at h2
        rw [show (0 : Int) = ((0 : Nat) : Int) from rfl, h2]
        have h3 := lines_go L hl hby b (a ++ [l]) m (by rw [hL]; simp) (fun y hy => by
          rcases List.mem_append.1 hy with hy | hy
          · exact ha y hy
          · rw [List.mem_singleton.1 hy]; exact ⟨hc, by omega⟩) (by omega)
        rw [show (((a ++ [l]).length : Nat) : Int) = (a.length : Int) + 1 by simp] at h3
        exact h3
      · exact h1.2 hc
end Go.Proofs.Ytmfobcheeekmfaa.FA
namespace Go.Proofs.Ytmfobcheeekmfaa.Pure
open Go.RowKit Go.Proofs.Ytmfobcheeekmfaa.FA
theorem DotsLines : wherrylaw14_DotsLines.Pure := by
  intro L _ wL
  refine ⟨60000, ?_⟩
  unfold wherrylaw14_DotsLines.f
  by_cases h1 : (L.length : Int) > 40
  · rw [if_pos h1]
  · rw [if_neg h1]
    exact lines_go L (by omega) (fun y hy => By.of_wf (wL y hy).2) L [] 60000 rfl (fun _ h => by cases h) (by omega)
end Go.Proofs.Ytmfobcheeekmfaa.Pure
