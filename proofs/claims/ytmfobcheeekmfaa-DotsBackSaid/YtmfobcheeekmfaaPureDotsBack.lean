/- DotsBack: what it computes is true. -/
import Derived.Test.YtmfobcheeekmfaaDots4
import Derived.Test.YtmfobcheeekmfaaSayDotsBack
namespace Go.Proofs.Ytmfobcheeekmfaa.FA
set_option linter.unusedSimpArgs false
set_option linter.unnecessarySimpa false
set_option linter.unusedVariables false
open Go.RowKit Go.Proofs.YtmfobcheeekmfaaW.PrintWords Go.Proofs.YtmfobcheeekmfaaW.PrintLast Go.Proofs.YtmfobcheeekmfaaW.PrintMore Go.Proofs.Ytmfobcheeekmfaa.Nums
theorem dot_iff (l : List Int) (h : By l) : (strOfNums l).toList = ([46] : List UInt8) ↔ l = [46] := by
  rw [Lib.strOfNums_toList]
  have e := bytes_beq l [46] h by_dot
  constructor
  · intro hh
    have : (Lib.bytesOf l == Lib.bytesOf [46]) = true := by rw [hh]; rfl
    rw [e] at this
    simpa using this
  · rintro rfl; rfl
theorem back_l0 (k : Nat) (x0 x5 x7 : List Int) (x8 x9 : Int) : ∀ (b a : List (List Int)), (∀ l ∈ b, By l ∧ l ≠ [46]) → (a ++ b).length < 4294967281 →
    wherrylaw14_DotsBack.l0 (k + b.length + 1) x0 x5 x7 x8 x9 (a ++ b ++ [[46]]) (a.length : Int) = wherrylaw14_DotsBack.l0 (k + 1) x0 x5 x7 x8 x9 (a ++ b ++ [[46]]) ((a ++ b).length : Int)
  | [], a, _, _ => by simp
  | l :: b, a, hb, hl => by
    have hlen : (a ++ l :: b).length = a.length + 1 + b.length := by simp; omega
    have hlen2 : (a ++ l :: b ++ [[46]]).length = a.length + 2 + b.length := by simp; omega
    have ih := back_l0 k x0 x5 x7 x8 x9 b (a ++ [l]) (fun y hy => hb y (List.mem_cons_of_mem _ hy)) (by simp at hl ⊢; omega)
    rw [show a ++ [l] ++ b = a ++ l :: b by simp, show (((a ++ [l]).length : Nat) : Int) = (a.length : Int) + 1 by simp] at ih
    rw [show k + (l :: b).length + 1 = (k + b.length + 1) + 1 by simp; omega]
    have hr : rd_L1 (a ++ l :: b ++ [[46]]) (a.length : Int) = l := by rw [show a ++ l :: b ++ [[46]] = a ++ l :: (b ++ [[46]]) by simp, rd_L1_mid]
    have ew : wrap64 ((((a ++ l :: b ++ [[46]]) : List (List Int)).length : Int) - 1) = ((a.length + 1 + b.length : Nat) : Int) := by rw [w64 _ (by omega) (by omega)]; omega
    have hs : wherrylaw14_DotsBack.l0 (k + b.length + 1 + 1) x0 x5 x7 x8 x9 (a ++ l :: b ++ [[46]]) (a.length : Int) = wherrylaw14_DotsBack.l0 (k + b.length + 1) x0 x5 x7 x8 x9 (a ++ l :: b ++ [[46]]) ((a.length : Int) + 1) := by
      rw [wherrylaw14_DotsBack.l0, ew, if_pos (by omega), if_pos (by omega), if_pos (by omega), hr, if_neg (fun h => (hb l List.mem_cons_self).2 ((dot_iff l (hb l List.mem_cons_self).1).1 h)), w64 _ (by omega) (by omega)]
    rw [hs, ih]
end Go.Proofs.Ytmfobcheeekmfaa.FA
namespace Go.Proofs.Ytmfobcheeekmfaa.Pure
open Go.RowKit Go.Proofs.Ytmfobcheeekmfaa.FA
theorem DotsBack : wherrylaw14_DotsBack.Pure := by
  intro a b _ wa _ wb
  have ya := By.of_wf wa
  have yb := By.of_wf wb
  refine ⟨50000 + a.length + 1 + 1, ?_⟩
  unfold wherrylaw14_DotsBack.f
  by_cases h1 : (a.length : Int) > 2000
  · rw [if_pos h1, wherrylaw14_DotsBack.j0, if_pos rfl]
  rw [if_neg h1, wherrylaw14_DotsBack.j0]
  by_cases h2 : (b.length : Int) > 2000
  · rw [decide_eq_true h2, if_pos rfl]
  rw [decide_eq_false h2, if_neg (by decide)]
  by_cases ha : au a 0 = true
  · obtain ⟨la, rfl, ca⟩ := (au_iff a).1 ha
    have sla := join_st_len la
    have tla := stuff_len la
    have jla := join_len la
    have jst := join_len (la.map st)
    have ybs := join_by ya
    have hst : ∀ g ∈ la.map st, By g ∧ g ≠ [46] := by
      intro g hg
      obtain ⟨l, hl, rfl⟩ := List.mem_map.1 hg
      exact ⟨st_by (ybs l hl), (st_nd (ca l hl)).2⟩
    have c46 : Cl [46] := fun x hx => by simp at hx; omega
    have hcs : ∀ l ∈ la.map st ++ [[46]], Cl l := by
      intro g hg
      rcases List.mem_append.1 hg with hg | hg
      · obtain ⟨l, hl, rfl⟩ := List.mem_map.1 hg
        exact st_cl (ca l hl)
      · rw [List.mem_singleton.1 hg]; exact c46
    have es : stuff la = join (la.map st ++ [[46]]) := by rw [join_app, join_one]; rfl
    rw [stuff_yes _ la ca ya (by omega) (by omega), Option.bind_some]
    simp only []
    rw [if_pos trivial, twin_eq _ (by omega), Option.bind_some, if_pos (by omega), strip_yes _ la b ca ya yb (by omega) (by omega) (by omega), Option.bind_some]
    have hlines : dots_Lines.f (50000 + (join la).length + 1) (stuff la) = some (la.map st ++ [[46]]) := by
      rw [es]
      exact lines_body _ _ hcs (by rw [← es]; exact stuff_by ya) (by rw [← es]; omega) (by simp at jst ⊢; omega)
    rw [hlines, Option.bind_some]
    simp only []
    have hl := back_l0 (50000 + (join la).length - la.length) (join la) (stuff la) (join la) ((stuff la).length : Int) 0 (la.map st) [] hst (by simp; omega)
    rw [List.length_map, show 50000 + (join la).length - la.length + la.length + 1 = 50000 + (join la).length + 1 by omega] at hl
    simp only [List.nil_append, List.length_nil] at hl
    rw [show ((0 : Nat) : Int) = 0 by rfl] at hl
    have hlm : (la.map st ++ [[46]]).length = la.length + 1 := by simp
    have hlm2 : (la.map st).length = la.length := by simp
    have hr : rd_L1 (la.map st ++ [[46]]) (la.length : Int) = [46] := by rw [← hlm2, rd_L1_mid]
    have ew : wrap64 ((((la.map st ++ [[46]]) : List (List Int)).length : Int) - 1) = (la.length : Int) := by rw [w64 _ (by omega) (by omega)]; omega
    rw [hl, wherrylaw14_DotsBack.l0, ew, if_neg (by omega), if_pos rfl, if_pos rfl, keep_bytes _ _ (by omega) _ (by omega), Option.bind_some, decide_eq_true rfl, if_pos rfl, if_pos (by omega), if_pos (by omega), if_pos (by omega), hr, if_pos ((dot_iff _ by_dot).2 rfl), wakes_eq _ (by omega)]
    rfl
  · rw [Bool.not_eq_true] at ha
    rw [stuff_no _ a ya (by omega) (by omega) ha, Option.bind_some, if_neg (by decide), if_pos rfl, check_eq _ a ya (by omega) (by omega), ha, Option.bind_some]
    simp [wakes_eq _ (show 60 ≤ 50000 + a.length + 1 by omega)]
end Go.Proofs.Ytmfobcheeekmfaa.Pure
