/- DotsTwo: what it computes is true. -/
import Derived.Test.YtmfobcheeekmfaaDots4
import Derived.Test.YtmfobcheeekmfaaSayDotsTwo
namespace Go.Proofs.Ytmfobcheeekmfaa.Pure
set_option linter.unusedSimpArgs false
set_option linter.unnecessarySimpa false
set_option linter.unusedVariables false
open Go.RowKit Go.Proofs.Ytmfobcheeekmfaa.FA
theorem DotsTwo : wherrylaw14_DotsTwo.Pure := by
  intro a b _ wa _ wb
  have ya := By.of_wf wa
  have yb := By.of_wf wb
  refine ⟨50000 + 1 + 1 + 1, ?_⟩
  unfold wherrylaw14_DotsTwo.f
  by_cases h1 : (a.length : Int) > 2000
  · rw [if_pos h1, wherrylaw14_DotsTwo.j0, if_pos rfl]
  rw [if_neg h1, wherrylaw14_DotsTwo.j0]
  by_cases h2 : (b.length : Int) > 2000
  · rw [decide_eq_true h2, if_pos rfl]
  rw [decide_eq_false h2, if_neg (by decide)]
  have hw : ∀ x5 x7, wherrylaw14_DotsTwo.j1 (50000 + 1 + 1) a b x5 x7 true = some true := by
    intro x5 x7
    rw [wherrylaw14_DotsTwo.j1, if_pos rfl, wakes_eq _ (by omega)]
    rfl
  by_cases ha : au a 0 = true
  · obtain ⟨la, rfl, ca⟩ := (au_iff a).1 ha
    have sla := join_st_len la
    rw [stuff_yes _ la ca ya (by omega) (by omega), Option.bind_some]
    by_cases hb : au b 0 = true
    · obtain ⟨lb, rfl, cb⟩ := (au_iff b).1 hb
      have slb := join_st_len lb
      have tla := stuff_len la
      have tlb := stuff_len lb
      rw [stuff_yes _ lb cb yb (by omega) (by omega), Option.bind_some, if_pos rfl, wherrylaw14_DotsTwo.j1]
      simp only []
      rw [if_neg (by decide), twin_eq _ (by omega), Option.bind_some, if_pos (by omega), Option.bind_some, strip_yes _ la (stuff lb) ca ya (stuff_by yb) (by omega) (by omega) (by omega), Option.bind_some]
      simp only []
      have hlen : (stuff la ++ stuff lb).length = (stuff la).length + (stuff lb).length := by simp
      rw [if_pos trivial, if_neg (by omega), decide_eq_false (by omega), wherrylaw14_DotsTwo.j2, if_neg (by decide), if_pos (by omega), if_pos (by omega), Int.toNat_natCast, List.drop_left]
      have h3 := strip_yes 50000 lb [] cb yb (fun x h => by cases h) (by omega) (by simp) (by omega)
      rw [List.append_nil] at h3
      rw [h3, Option.bind_some]
      simp only []
      rw [if_pos trivial, w64 _ (by omega) (by omega), if_pos (by omega), keep_bytes _ _ (by omega) _ (by omega), Option.bind_some, decide_eq_true rfl, if_pos rfl, keep_bytes _ _ (by omega) _ (by omega), Option.bind_some, decide_eq_true rfl, if_pos rfl, wakes_eq _ (by omega)]
      rfl
    · rw [Bool.not_eq_true] at hb
      rw [stuff_no _ b yb (by omega) (by omega) hb, Option.bind_some, if_pos rfl]
      exact hw _ _
  · rw [Bool.not_eq_true] at ha
    rw [stuff_no _ a ya (by omega) (by omega) ha, Option.bind_some]
    obtain ⟨y, hy⟩ : ∃ y, dots_Stuff.f (50000 + 1 + 1) b = some y := by
      by_cases hb : au b 0 = true
      · obtain ⟨lb, rfl, cb⟩ := (au_iff b).1 hb
        exact ⟨_, stuff_yes _ lb cb yb (by omega) (by omega)⟩
      · rw [Bool.not_eq_true] at hb
        exact ⟨_, stuff_no _ b yb (by omega) (by omega) hb⟩
    rw [hy, Option.bind_some, if_neg (by decide)]
    exact hw _ _
end Go.Proofs.Ytmfobcheeekmfaa.Pure
