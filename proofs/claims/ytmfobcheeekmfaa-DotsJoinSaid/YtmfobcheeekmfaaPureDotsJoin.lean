/- DotsJoin: what it computes is true. -/
import Derived.Test.YtmfobcheeekmfaaDots5
import Derived.Test.YtmfobcheeekmfaaSayDotsJoin
namespace Go.Proofs.Ytmfobcheeekmfaa.Pure
set_option linter.unusedSimpArgs false
set_option linter.unnecessarySimpa false
set_option linter.unusedVariables false
open Go.RowKit Go.Proofs.Ytmfobcheeekmfaa.FA
theorem DotsJoin : wherrylaw14_DotsJoin.Pure := by
  intro a b _ wa _ wb
  have ya := By.of_wf wa
  have yb := By.of_wf wb
  refine ⟨50000 + 1 + 1, ?_⟩
  have hj : ∀ x0 x1, wherrylaw14_DotsJoin.j0 (50000 + 1 + 1) x0 x1 true = some true := by
    intro x0 x1
    rw [wherrylaw14_DotsJoin.j0, if_pos rfl]
  unfold wherrylaw14_DotsJoin.f
  by_cases h1 : (a.length : Int) > 2000
  · rw [if_pos h1, hj]
  rw [if_neg h1]
  by_cases h2 : (b.length : Int) > 2000
  · rw [if_pos h2, hj]
  rw [if_neg h2, body_eq _ a (by omega) (by omega), Option.bind_some]
  by_cases ha : au a 0 = true
  · obtain ⟨la, rfl, ca⟩ := (au_iff a).1 ha
    rw [ha, if_pos rfl, body_eq _ b (by omega) (by omega), Option.bind_some]
    by_cases hb : au b 0 = true
    · obtain ⟨lb, rfl, cb⟩ := (au_iff b).1 hb
      have sla := join_st_len la
      have slb := join_st_len lb
      have tla := stuff_len la
      have tlb := stuff_len lb
      have cab : ∀ l ∈ la ++ lb, Cl l := fun l h => (List.mem_append.1 h).elim (ca l) (cb l)
      have hlen : (join (la ++ lb)).length = (join la).length + (join lb).length := by rw [join_app]; simp
      have yab : By (join (la ++ lb)) := by rw [join_app]; exact ya.app yb
      rw [hb, wherrylaw14_DotsJoin.j0, if_neg (by decide), twin_eq _ (by omega), Option.bind_some, if_pos (by omega), Option.bind_some, stuff_yes _ la ca ya (by omega) (by omega), Option.bind_some, stuff_yes _ lb cb yb (by omega) (by omega), Option.bind_some,
        ← join_app, stuff_yes _ (la ++ lb) cab yab (by omega) (by omega), Option.bind_some]
      simp only []
      have e3 : wrap64 (((stuff la).length : Int) - 3) = (((join (la.map st)).length : Nat) : Int) := by rw [w64 _ (by omega) (by omega)]; omega
      have htk : (stuff la).take (join (la.map st)).length = join (la.map st) := List.take_left
      rw [if_pos trivial, if_pos trivial, if_pos trivial, decide_eq_false (by omega), wherrylaw14_DotsJoin.j1, if_neg (by decide), check_eq _ _ yab (by omega) (by omega), au_body _ cab, Option.bind_some, if_pos rfl, if_pos rfl, e3, if_pos (by omega), if_pos (by omega),
        Int.toNat_natCast, htk, twin_eq _ (by omega), Option.bind_some, if_pos (by omega)]
      have e4 : stuff (la ++ lb) = join (la.map st) ++ stuff lb := by simp [stuff, join_app]
      have hs : (stuff (la ++ lb)).length = (join (la.map st)).length + (stuff lb).length := by rw [e4]; simp
      rw [e4, keep_bytes _ _ (by rw [← e4]; omega) _ (by rw [← e4]; omega), Option.bind_some, decide_eq_true rfl, if_pos rfl, wakes_eq _ (by omega)]
      rfl
    · rw [Bool.not_eq_true] at hb
      rw [hb]
      exact hj _ _
  · rw [Bool.not_eq_true] at ha
    rw [ha, if_neg (by decide), hj]
end Go.Proofs.Ytmfobcheeekmfaa.Pure
