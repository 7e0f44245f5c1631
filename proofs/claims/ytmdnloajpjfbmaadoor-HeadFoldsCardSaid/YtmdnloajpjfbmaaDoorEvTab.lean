/- A table that the row lists: its cells. -/
import Derived.Test.YtmdnloajpjfbmaaDoorEvRow
import Derived.Lib.LaidTab
import Derived.LaidLaws
namespace Go.Proofs.YtmdnloajpjfbmaaDoor.Ev
set_option linter.all false
open Go Go.RowKit Go.ChangeShapes Go.WideShapes Go.ChangeAt
theorem laidV_tab {P : Program} {w : World} {name : String} {k : IntKind} {zs : List Int} {g : Nat} {t e : TypeId} {n : Nat}
    (hg : P.globalNamed name = some g) (hty : (P.globals[g]?).map (·.type) = some t) (ht : P.underlying t = some (.array n e)) (he : P.underlying e = some (.int k)) (hce : P.cellsOf e = 1) (hct : P.cellsOf t = n) :
    ∀ (laid : List (String × DataW Unit)) (ps : List MemPlace), DataW.LaidVars P w laid ps → ∀ i : Nat, laid[i]? = some (name, Lib.tabData k zs) → w.var? P name = some (zs.map fun z => Value.int k z).toArray
  | [], _, _, i, hi => by simp at hi
  | x :: r, ps, h, i, hi => by
    obtain ⟨g', t', cs, fuel, p, q, hg', ht', hvar, hd, hr, _⟩ := h
    cases i with
    | zero =>
      simp only [List.getElem?_cons_zero, Option.some.injEq] at hi
      obtain ⟨nm, d⟩ := x
      cases hi
      obtain rfl := Option.some.inj (hg.symm.trans hg')
      obtain rfl := Option.some.inj (hty.symm.trans ht')
      rw [hvar, ← Lib.cells_of_tab ht he hce hct hd]
    | succ i => exact laidV_tab hg hty ht he hce hct r q hr i (by simpa using hi)
theorem hk_tab {P : Program} {w : World} {laid : List (String × DataW Unit)} {name : String} {k : IntKind} {zs : List Int} {g : Nat} {t e : TypeId} {n : Nat} (i : Nat) (h : laidMetH P laid w) (hp : (laid.all fun x => x.2.handleName?.isNone) = true)
    (hi : laid[i]? = some (name, Lib.tabData k zs)) (hg : P.globalNamed name = some g) (hty : (P.globals[g]?).map (·.type) = some t) (ht : P.underlying t = some (.array n e)) (he : P.underlying e = some (.int k)) (hce : P.cellsOf e = 1) (hct : P.cellsOf t = n) :
    ∃ cs el fr, w.heap[g]? = some (.cells cs el fr) ∧ cs = (zs.map fun z => Value.int k z).toArray := by
  rw [MakeChecks.laidMetH_plain _ _ _ hp] at h
  obtain ⟨ps, hl, _⟩ := h
  have := laidV_tab hg hty ht he hce hct laid ps hl i hi
  unfold World.var? at this
  rw [hg] at this
  simp only [Option.bind_some] at this
  split at this
  · rename_i cs el fr hc
    exact ⟨cs, el, fr, hc, Option.some.inj this⟩
  · cases this
theorem laidV_any {P : Program} {w : World} {name : String} {d : DataW Unit} {g : Nat} {t : TypeId} (hg : P.globalNamed name = some g) (hty : (P.globals[g]?).map (·.type) = some t) :
    ∀ (laid : List (String × DataW Unit)) (ps : List MemPlace), DataW.LaidVars P w laid ps → ∀ i : Nat, laid[i]? = some (name, d) → ∃ cs fuel p, w.var? P name = some cs ∧ DataW.trod (fun _ => ()) P w 0 (fun _ => true) false fuel t cs.toList = some (d, p)
  | [], _, _, i, hi => by simp at hi
  | x :: r, ps, h, i, hi => by
    obtain ⟨g', t', cs, fuel, p, q, hg', ht', hvar, hd, hr, _⟩ := h
    cases i with
    | zero =>
      simp only [List.getElem?_cons_zero, Option.some.injEq] at hi
      obtain ⟨nm, d'⟩ := x
      cases hi
      obtain rfl := Option.some.inj (hg.symm.trans hg')
      obtain rfl := Option.some.inj (hty.symm.trans ht')
      exact ⟨cs, fuel, p, hvar, hd⟩
    | succ i => exact laidV_any hg hty r q hr i (by simpa using hi)
theorem hk_iface {P : Program} {w : World} {laid : List (String × DataW Unit)} {name nm : String} {d : DataW Unit} {g : Nat} {t : TypeId} (i : Nat) (h : laidMetH P laid w) (hp : (laid.all fun x => x.2.handleName?.isNone) = true)
    (hi : laid[i]? = some (name, .iface nm d)) (hg : P.globalNamed name = some g) (hty : (P.globals[g]?).map (·.type) = some t) (ht : (match P.underlying t with | some (.interface _) => true | _ => false) = true) :
    ∃ cs el fr, w.heap[g]? = some (.cells cs el fr) ∧ ∃ v : Value, cs = #[v] ∧ (v = .nilIface ∨ ∃ te pe, v = .iface te pe) := by
  rw [MakeChecks.laidMetH_plain _ _ _ hp] at h
  obtain ⟨ps, hl, _⟩ := h
  obtain ⟨cs, fuel, p, hv, hd⟩ := laidV_any hg hty laid ps hl i hi
  split at ht
  · rename_i ms hms
    obtain ⟨_, u, v, hc, _, _⟩ := iface_of_trod hms hd
    unfold World.var? at hv
    rw [hg] at hv
    simp only [Option.bind_some] at hv
    split at hv
    · rename_i cs' el fr hh
      cases hv
      exact ⟨cs, el, fr, hh, .iface u v, by apply Array.ext'; simpa using hc, .inr ⟨u, v, rfl⟩⟩
    · cases hv
  · cases ht
end Go.Proofs.YtmdnloajpjfbmaaDoor.Ev
