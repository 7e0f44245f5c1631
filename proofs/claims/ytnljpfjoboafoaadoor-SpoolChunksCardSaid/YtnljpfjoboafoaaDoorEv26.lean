/- Trees of a program's functions: what they tell of calls. -/
import Derived.Test.YtnljpfjoboafoaaDoorEv24
import Derived.Test.YtnljpfjoboafoaaDoorEv25
namespace Go.Proofs.YtnljpfjoboafoaaDoor.Ev
set_option linter.all false
open Go Go.RowKit

/-- C is the body of P's function f in compact form, and F its tree. -/
def Told (P : Program) (f : Nat) (F : LF) (C : CF) : Prop :=
  ∃ fn cfg lv pub us hint np fuel, P.funcs[f]? = some fn ∧ (fn.name == "runtime.NumGoroutine") = false ∧ compF P fn cfg lv pub = some C ∧ trF us hint C np fuel = some F
def TreeOk (P : Program) (lt : Nat → Option LF) : Prop := ∀ f F, lt f = some F → ∃ C, Told P f F C
def treeOf (P : Program) (fn : Func) (cfg : Nat → Nat) (lv : Nat → List Nat) (pub : Bool) (us : List Nat) (np fuel : Nat) (hint : LC) : Option LF :=
  match compF P fn cfg lv pub with | some C => trF us hint C np fuel | none => none
theorem told_of {P : Program} {f : Nat} {F : LF} {fn : Func} {cfg : Nat → Nat} {lv : Nat → List Nat} {pub : Bool} {us : List Nat} {np fuel : Nat} {hint : LC} (h : treeOf P fn cfg lv pub us np fuel hint = some F) (h1 : P.funcs[f]? = some fn) (h2 : (fn.name == "runtime.NumGoroutine") = false) : ∃ C, Told P f F C := by
  unfold treeOf at h
  split at h
  · rename_i C hC
    exact ⟨C, fn, cfg, lv, pub, us, hint, np, fuel, h1, h2, hC, h⟩
  · cases h
theorem evFL_call {P : Program} (hmx : P.follows .mixedOrders = true) {lt : Nat → Option LF} {ov : Ov} (hlt : TreeOk P lt) (hov : OvOk P ov) (k : Nat) : CallOk P (evFL lt ov k) := by
  classical
  let ct : Nat → Option CF := fun f => if h : ∃ C F, lt f = some F ∧ Told P f F C then some h.choose else none
  have hct : TabOk P ct := by
    intro f C h
    simp only [ct] at h
    split at h
    · rename_i h0
      cases h
      obtain ⟨F, _, fn, cfg, lv, pub, us, hint, np, fuel, h1, h2, h3, h4⟩ := h0.choose_spec
      exact ⟨fn, cfg, lv, pub, h1, h2, h3⟩
    · cases h
  have hl : LtOk ct lt := by
    intro f F hF
    obtain ⟨C, hC⟩ := hlt f F hF
    have h0 : ∃ C F, lt f = some F ∧ Told P f F C := ⟨C, F, hF, hC⟩
    obtain ⟨F', hF', fn, cfg, lv, pub, us, hint, np, fuel, h1, h2, h3, h4⟩ := h0.choose_spec
    rw [hF] at hF'
    cases hF'
    exact ⟨h0.choose, us, hint, np, fuel, by simp only [ct]; rw [dif_pos h0], h4⟩
  intro f args H r H' h
  exact evF_ok hmx hct hov k f args H r H' (evFL_ok hl k f args H _ h)
/-- A law that its tree evaluates to true returns true, and the blocks that were there are as they were. -/
theorem law_tree {P : Program} (hmx : P.follows .mixedOrders = true) {lt : Nat → Option LF} {ov : Ov} (hlt : TreeOk P lt) (hov : OvOk P ov) {k f : Nat} {args : List PV} {H' : Hp} (h : evFL lt ov k f args [] = some (.bool true, H'))
    {w : World} (hz : ∀ b, glob = some b → ∃ m, w.cell? ⟨b, 0, none⟩ = some (.int .i64 m)) (hk : ∀ b, b ∈ constB → ∃ cs el fr, w.heap[b]? = some (.cells cs el fr) ∧ blockOk b cs) {vs : List Value} (hv : RVs (gh0 w) [] args vs) :
    Calls P f ⟨vs⟩ w fun e w' => e = .returned (.bool true) ∧ Below w.heap.size w w' :=
  ((evFL_call hmx hlt hov k f args [] _ _ h).2 (gh0 w) w vs (inv0 hz hk) hv).mono fun e w' ⟨v, g', he, _, hr, hx⟩ => by
    simp only [RV] at hr
    subst hr
    exact ⟨he, below0 hx⟩
end Go.Proofs.YtnljpfjoboafoaaDoor.Ev
