/- slices.Clone, whatever the elements: its own tree, read where the slice is nil, where it holds nothing, where it holds something. -/
import Derived.Test.YtnljpfjoboafoaaDoorEvL
import Derived.Test.YtnljpfjoboafoaaDoorEvS
namespace Go.Proofs.YtnljpfjoboafoaaDoor.Ev
set_option linter.all false
open Go Go.RowKit
def ovCl (sz : Nat) (φ : Nat → List PV → Option (PV × Hp)) : List PV → Hp → Option (PV × Hp)
  | [.sl _ z n cs], [] => if n = 0 then some (.sl (.tok 0) sz 0 [], [.tok]) else if z = sz then φ n cs else none
  | _, _ => none
theorem ok_cl {P : Program} {f : Nat} (hmx : P.follows .mixedOrders = true) {lt0 : Nat → Option LF} (hlt : TreeOk P lt0) (he : Enters P f) (hnil : ∀ (n c : Nat) (w : World), Calls P f #[.slice none n c] w fun e w' => e = .returned (.slice none 0 0) ∧ w' = w)
    {sz : Nat} {φ : Nat → List PV → Option (PV × Hp)} (hne : evT lt0 (fun _ => none) f [.ne0] [] = some (.sl (.tok 0) sz 0 [], [.tok])) (hpos : ∀ n cs r, 0 < n → φ n cs = some r → evT lt0 (fun _ => none) f [.sl .no sz n cs] [] = some r) :
    CallOk P fun f' args H => if f' = f then ovCl sz φ args H else none := fun f' args H r H' h => by
  dsimp only at h
  split at h
  case isFalse => cases h
  rename_i hf
  subst hf
  refine ⟨he, fun g w vs hI hr => ?_⟩
  have hov : OvOk P (fun _ => none) := fun _ _ h => by cases h
  unfold ovCl at h
  split at h
  · rename_i t z n cs
    obtain ⟨v, rfl, h1⟩ : ∃ v, vs = [v] ∧ RV g [] (.sl t z n cs) v := by
      simp only [RVs] at hr
      obtain ⟨v, r, rfl, h1, rfl⟩ := hr
      exact ⟨v, rfl, h1⟩
    have hrc := sl_of h1
    split at h
    · rename_i h0
      subst h0
      cases h
      have hrc' := hrc
      simp only [RC] at hrc'
      obtain ⟨_, a, cap, rfl, _⟩ := hrc'
      cases a with
      | none =>
        refine (hnil 0 cap w).mono ?_
        rintro e w' ⟨rfl, rfl⟩
        obtain ⟨g', h2, h3, h4, _⟩ := add_nil hI
        refine ⟨_, g', rfl, h2, ?_, h3⟩
        simp only [RV, RC]
        refine ⟨by simp, ⟨fun _ h => (by cases h), none, 0, rfl, Nat.le_refl _, fun h => (by cases h), by simp, fun h => absurd h (Nat.lt_irrefl 0)⟩, fun _ => ?_⟩
        unfold OwnAt
        rw [show g'.μ 0 = none from h4]
        exact ⟨none, rfl⟩
      | some ad =>
        obtain ⟨k, hk⟩ := evT_iff.1 hne
        refine (evFL_call hmx hlt hov k f' [.ne0] [] _ _ hk).2 g w [.slice (some ad) 0 cap] hI ?_
        simp only [RVs, RV]
        exact ⟨_, _, rfl, ⟨ad, cap, rfl⟩, rfl⟩
    · rename_i h0
      split at h
      · rename_i hz
        subst hz
        obtain ⟨k, hk⟩ := evT_iff.1 (hpos n cs _ (by omega) h)
        refine (evFL_call hmx hlt hov k f' [.sl .no z n cs] [] _ _ hk).2 g w [v] hI ?_
        simp only [RVs, RV]
        exact ⟨_, _, rfl, hrc, rfl⟩
      · cases h
  · cases h
end Go.Proofs.YtnljpfjoboafoaaDoor.Ev
