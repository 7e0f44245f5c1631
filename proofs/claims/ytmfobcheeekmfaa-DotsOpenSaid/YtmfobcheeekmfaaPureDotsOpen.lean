/- DotsOpen: what it computes is true. -/
import Derived.Test.YtmfobcheeekmfaaDots5
import Derived.Test.YtmfobcheeekmfaaSayDotsOpen
namespace Go.Proofs.Ytmfobcheeekmfaa.FA
set_option linter.unusedSimpArgs false
set_option linter.unnecessarySimpa false
set_option linter.unusedVariables false
open Go.RowKit Go.Proofs.YtmfobcheeekmfaaW.PrintWords Go.Proofs.YtmfobcheeekmfaaW.PrintLast Go.Proofs.YtmfobcheeekmfaaW.PrintMore Go.Proofs.Ytmfobcheeekmfaa.Nums
theorem open_l0 (k : Nat) (x0 : List Int) (x7 : Int) : ∀ (b a : List (List Int)), (a ++ b).length < 4294967281 → (join (a ++ b)).length < 100000 →
    wherrylaw14_DotsOpen.l0 (k + b.length + 1) x0 x7 (a ++ b) (join a) (a.length : Int) = wherrylaw14_DotsOpen.l0 (k + 1) x0 x7 (a ++ b) (join (a ++ b)) ((a ++ b).length : Int)
  | [], a, _, _ => by simp
  | l :: b, a, hl, hj => by
    have hlen : (a ++ l :: b).length = a.length + 1 + b.length := by simp; omega
    have hjl : (join (a ++ l :: b)).length = (join a).length + l.length + 2 + (join b).length := by rw [join_app, join_cons]; simp; omega
    have ih := open_l0 k x0 x7 b (a ++ [l]) (by simp at hl ⊢; omega) (by rw [show a ++ [l] ++ b = a ++ l :: b by simp]; exact hj)
    rw [show a ++ [l] ++ b = a ++ l :: b by simp, show (((a ++ [l]).length : Nat) : Int) = (a.length : Int) + 1 by simp] at ih
    rw [show k + (l :: b).length + 1 = (k + b.length + 1) + 1 by simp; omega]
    have hs : wherrylaw14_DotsOpen.l0 (k + b.length + 1 + 1) x0 x7 (a ++ l :: b) (join a) (a.length : Int) = wherrylaw14_DotsOpen.l0 (k + b.length + 1) x0 x7 (a ++ l :: b) (join (a ++ [l])) ((a.length : Int) + 1) := by
      rw [wherrylaw14_DotsOpen.l0, if_pos (by omega), if_pos (by omega), rd_L1_mid, if_pos (by omega), Option.bind_some, Option.bind_some, if_pos (by simp; omega), w64 _ (by omega) (by omega), join_app, join_one, List.append_assoc]
    rw [hs, ih]
end Go.Proofs.Ytmfobcheeekmfaa.FA
namespace Go.Proofs.Ytmfobcheeekmfaa.Pure
open Go.RowKit Go.Proofs.Ytmfobcheeekmfaa.FA
theorem DotsOpen : wherrylaw14_DotsOpen.Pure := by
  intro a _ wa
  have ya := By.of_wf wa
  refine ⟨?_, ?_⟩
  · exact 50000 + 1 + (a.length) + 1 + 1 + 1
  unfold wherrylaw14_DotsOpen.f
  by_cases h1 : (a.length : Int) > 2000
  · rw [if_pos h1, wherrylaw14_DotsOpen.j0, if_pos rfl]
  rw [if_neg h1, body_eq _ a (by omega) (by omega), Option.bind_some, wherrylaw14_DotsOpen.j0]
  by_cases ha : au a 0 = true
  · obtain ⟨la, rfl, ca⟩ := (au_iff a).1 ha
    have sla := join_st_len la
    have tla := stuff_len la
    have jla := join_len la
    have jst := join_len (la.map st)
    rw [ha, if_neg (by decide), stuff_yes _ la ca ya (by omega) (by omega), Option.bind_some]
    simp only []
    have e3 : wrap64 (((stuff la).length : Int) - 1) = ((((join (la.map st)).length + 2 : Nat)) : Int) := by rw [w64 _ (by omega) (by omega)]; omega
    have htk : (stuff la).take ((join (la.map st)).length + 2) = join (la.map st) ++ [46, 13] := by
      rw [stuff, List.take_append, List.take_of_length_le (by omega)]
      simp
    have hst : ∀ g ∈ la.map st, Nd g := by
      intro g hg
      obtain ⟨l, hl, rfl⟩ := List.mem_map.1 hg
      exact st_nd (ca l hl)
    have by46 : By [46, 13] := fun x hx => by simp at hx; omega
    obtain ⟨n, hn⟩ := last_no (la.map st) hst ((by_join_st ya).app by46) (by simp; omega)
    rw [if_pos trivial, decide_eq_false (by omega), wherrylaw14_DotsOpen.j1, if_neg (by decide), e3, if_pos (by omega), if_pos (by omega), Int.toNat_natCast, htk]
    have hsp : ∀ k, dots_Strip.f k (join (la.map st) ++ [46, 13]) = some ([], 0, 9) := by
      intro k
      unfold dots_Strip.f
      rw [hn, Option.bind_some]
      simp
    rw [hsp, Option.bind_some, lines_body _ la ca ya (by omega) (by omega), Option.bind_some]
    simp only []
    have hl := open_l0 (50001 + (join la).length - la.length) (join la) 9 la [] (by simp; omega) (by simp; omega)
    rw [show 50001 + (join la).length - la.length + la.length + 1 = 50000 + 1 + (join la).length + 1 by omega] at hl
    simp only [List.nil_append, List.length_nil, join_nil] at hl
    rw [show ((0 : Nat) : Int) = 0 by rfl] at hl
    rw [hl, wherrylaw14_DotsOpen.l0, if_neg (by omega), if_pos rfl, keep_bytes _ _ (by omega) _ (by omega), Option.bind_some, decide_eq_true rfl, if_pos rfl, wakes_eq _ (by omega)]
    rfl
  · rw [Bool.not_eq_true] at ha
    rw [ha]
    rfl
end Go.Proofs.Ytmfobcheeekmfaa.Pure
