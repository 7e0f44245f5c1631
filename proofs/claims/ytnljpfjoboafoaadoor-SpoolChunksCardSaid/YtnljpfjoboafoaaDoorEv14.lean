/- Regions whose order is that of the text: told by the evaluator. -/
import Derived.Test.YtnljpfjoboafoaaDoorEv13
namespace Go.Proofs.YtnljpfjoboafoaaDoor.Ev
set_option linter.all false
open Go Go.RowKit

structure CO where
  dst : Option Nat
  op : COp
  g : Option (Nat × Bool)
  deriving Inhabited
def putP (tm : List PV) (d : Option Nat) (p : PV) : List PV := match d with | some d => tm.set d p | none => tm
def wantP (tm : List PV) : Option (Nat × Bool) → Option Bool
  | none => some true
  | some (t, b) => match tm.getD t .bot with | .bool c => some (c == b) | .und => some false | _ => none
def evO (call : Nat → List PV → Hp → Option (PV × Hp)) (o : CO) (tm : List PV) (H : Hp) : Option (List PV × Hp) :=
  match wantP tm o.g with
  | some true => (match evalOp call tm H o.op with | some (r, H') => some (putP tm o.dst r, H') | none => none)
  | some false => some (putP tm o.dst .und, H)
  | none => none
def evOs (call : Nat → List PV → Hp → Option (PV × Hp)) : List CO → List PV → Hp → Option (List PV × Hp)
  | [], tm, H => some (tm, H)
  | o :: r, tm, H => match evO call o tm H with | some (tm', H') => evOs call r tm' H' | none => none

def compO (P : Program) (ops : Array Oper) (fl : Nat) (o : Oper) : Option CO :=
  match o.guard with
  | none => some ⟨o.dst, comp P fl o, none⟩
  | some (j, b) => match (ops[j]?).bind (·.dst) with | some d => some ⟨o.dst, comp P fl o, some (d, b)⟩ | none => none

/-- The frame and the world are what the evaluator's state tells. -/
structure StOk (g : Gh) (tm : List PV) (H : Hp) (a : Act) (w : World) : Prop where
  tm : RVs g H tm a.tmps.toList
  inv : Inv g H w
  defers : a.defers = []

theorem StOk.put {g : Gh} {tm : List PV} {H : Hp} {a : Act} {w : World} (h : StOk g tm H a w) {g' : Gh} {H' : Hp} {w' : World} (hE : Ext g H w g' H' w') (hI : Inv g' H' w') (d : Option Nat) {p : PV} {v : Value} (hp : RV g' H' p v) : StOk g' (putP tm d p) H' (a.put d v) w' := by
  have h1 := h.tm.ext hE
  cases d with
  | none => exact ⟨h1, hI, h.defers⟩
  | some d =>
    refine ⟨?_, hI, h.defers⟩
    simp only [putP, Act.put, Array.toList_setIfInBounds]
    exact h1.set d hp

section
variable {P : Program} {call : Nat → List PV → Hp → Option (PV × Hp)} {Q : Exit → Act → World → Prop}

theorem calls_only {fl : Nat} {o : Oper} (h : (comp P fl o).calls = true) : ∃ f args argTypes, o.op = .call ⟨.value f, args, argTypes⟩ := by
  obtain ⟨dst, op, type, pos, after, guard⟩ := o
  cases op
  case call c =>
    obtain ⟨callee, args, argTypes⟩ := c
    cases callee with
    | value f => exact ⟨f, args, argTypes, rfl⟩
    | invoke rv m => simp [comp, COp.calls] at h
    | builtin b =>
      exfalso
      revert h
      cases b <;> simp only [comp] <;> (repeat' split) <;> simp [COp.calls]
  case makeFunc fn first caps =>
    exfalso
    revert h
    cases fn <;> simp only [comp] <;> (repeat' split) <;> simp [COp.calls]
  all_goals
    exfalso
    revert h
    simp only [comp]
    (repeat' split) <;> simp [COp.calls]

/-- An operation's step: what the evaluator tells, and nothing else, is what follows it has to do with. -/
theorem oper_wp (hcall : CallOk P call) {g : Gh} {tm : List PV} {H : Hp} {a : Act} {w : World} (h : StOk g tm H a w) {fl : Nat} {o : Oper} {r : PV} {H' : Hp} (he : evalOp call tm H (comp P fl o) = some (r, H')) {K : Act → World → Prop}
    (hK : ∀ v w' g', Inv g' H' w' → RV g' H' r v → Ext g H w g' H' w' → K (a.put o.dst v) w') : o.wp P a w K Q := by
  unfold Oper.wp
  cases hc : (comp P fl o).calls with
  | false =>
    obtain ⟨nx, v, w', g', h1, h2, h3, h4, h5⟩ := op_sound h.inv h.tm hc he
    rw [h1]
    rcases h2 with rfl | ⟨rfl, rfl⟩
    · exact hK v w' g' h3 h4 h5
    · exact hK undef w' g' h3 h4 h5
  | true =>
    have hx := fun x => cx_ev h.tm (a := a) x
    have hxs : ∀ l : List Operand, RVs g H ((l.map cx).map (X.ev tm)) (l.map a.eval) := fun l => by
      induction l with
      | nil => simp only [List.map_nil, RVs]
      | cons x l ih => simp only [List.map_cons, RVs]; exact ⟨_, _, rfl, hx x, ih⟩
    have hent : ∀ {f : FuncId} {vs : List PV} {us : List Value} {H0 : Hp} {g0 : Gh} {r0 : PV} {H1 : Hp}, call f vs H0 = some (r0, H1) → Inv g0 H0 w → RVs g0 H0 vs us → (execOp a.eval o).run P w = (callFunc f ⟨us⟩).run P w →
        (∀ v w' g', Inv g' H1 w' → RV g' H1 r0 v → Ext g0 H0 w g' H1 w' → K (a.put o.dst v) w') → o.upon P a K Q ((execOp a.eval o).run P w) := fun {f vs us H0 g0 r0 H1} h1 h2 h3 h4 h5 => by
      obtain ⟨hen, hcl⟩ := hcall f vs H0 r0 H1 h1
      rw [h4, run_callFunc hen, Oper.upon_enter]
      refine (hcl g0 w us h2 h3).mono fun e w' hh => ?_
      obtain ⟨v, g', rfl, h6, h7, h8⟩ := hh
      exact h5 v w' g' h6 h7 h8
    obtain ⟨f, args, argTypes, hop⟩ := calls_only hc
    obtain ⟨dst, op, type, pos, after, guard⟩ := o
    simp only at hop
    subst hop
    simp only [comp] at he
    have hv : ∀ f', f = .func f' → ∀ us, us = args.toList.map a.eval → (execOp a.eval ⟨dst, .call ⟨.value f, args, argTypes⟩, type, pos, after, guard⟩).run P w = (callFunc f' ⟨us⟩).run P w := fun f' hf us hus => by
      subst hf
      have : (⟨us⟩ : Array Value) = args.map a.eval := by subst hus; apply Array.ext'; simp
      rw [this]
      simp [execOp, resolve, Deferred.ofValue, Act.eval, invoke]
    have hcv : ∀ f' caps us, a.eval f = .func (.func f') #[] ⟨caps⟩ → us = args.toList.map a.eval ++ caps → (execOp a.eval ⟨dst, .call ⟨.value f, args, argTypes⟩, type, pos, after, guard⟩).run P w = (callFunc f' ⟨us⟩).run P w := fun f' caps us hf hus => by
      have : (⟨us⟩ : Array Value) = args.map a.eval ++ ⟨caps⟩ := by subst hus; apply Array.ext'; simp
      rw [this]
      simp [execOp, resolve, Deferred.ofValue, hf, invoke]
    have hbare : ∀ {g' : FuncId} {us : List Value} {ps : List PV} {keep : Bool}, RVs g H ps us → (execOp a.eval ⟨dst, .call ⟨.value f, args, argTypes⟩, type, pos, after, guard⟩).run P w = (callFunc g' ⟨us⟩).run P w →
        (match (generalizing := false) call g' (PV.rens (fun _ => none) ps) [] with
          | some (r, H') => if keep then some (r.ren fun j => some (H.length + j), H ++ shift H.length H') else some (r.ren fun _ => none, H)
          | none => none) = some (r, H') → Oper.upon P ⟨dst, .call ⟨.value f, args, argTypes⟩, type, pos, after, guard⟩ a K Q ((execOp a.eval ⟨dst, .call ⟨.value f, args, argTypes⟩, type, pos, after, guard⟩).run P w) := fun {g' us ps keep} hps hrun he => by
      split at he
      · rename_i r0 H1 hcl
        refine hent hcl h.inv.bare hps.bare hrun fun v w' g1 h1 h2 h3 => ?_
        obtain ⟨g2, h4, h5, h6⟩ := after_bare h.inv h1 h3
        split at he
        · cases he
          exact hK v w' g2 h4 (RV.ren h6 h2) h5
        · cases he
          obtain ⟨g3, h7, h8, h9⟩ := after_none h.inv h1 h3
          exact hK v w' g3 h7 (RV.ren h9 h2) h8
      · cases he
    have hvalw : ∀ keep, evalOp call tm H (.callw keep (cx f) (args.toList.map cx)) = some (r, H') → Oper.upon P ⟨dst, .call ⟨.value f, args, argTypes⟩, type, pos, after, guard⟩ a K Q ((execOp a.eval ⟨dst, .call ⟨.value f, args, argTypes⟩, type, pos, after, guard⟩).run P w) := fun keep he => by
      simp only [evalOp] at he
      have h1 := hx f
      split at he
      · rename_i f' caps hf
        rw [hf] at h1
        simp only [RV] at h1
        obtain ⟨cv, h2, h3⟩ := h1
        exact hbare ((hxs args.toList).append h3) (hcv f' cv _ h2 rfl) he
      · cases he
    have hval : evalOp call tm H (.callv (cx f) (args.toList.map cx)) = some (r, H') → Oper.upon P ⟨dst, .call ⟨.value f, args, argTypes⟩, type, pos, after, guard⟩ a K Q ((execOp a.eval ⟨dst, .call ⟨.value f, args, argTypes⟩, type, pos, after, guard⟩).run P w) := fun he => by
      simp only [evalOp] at he
      have h1 := hx f
      split at he
      · rename_i f' caps hf
        rw [hf] at h1
        simp only [RV] at h1
        obtain ⟨cv, h2, h3⟩ := h1
        exact hent he h.inv ((hxs args.toList).append h3) (hcv f' cv _ h2 rfl) hK
      · cases he
    have hboth : evalOp call tm H (if (fl == 4 || fl == 5) = true then .callw (fl == 5) (cx f) (args.toList.map cx) else .callv (cx f) (args.toList.map cx)) = some (r, H') → Oper.upon P ⟨dst, .call ⟨.value f, args, argTypes⟩, type, pos, after, guard⟩ a K Q ((execOp a.eval ⟨dst, .call ⟨.value f, args, argTypes⟩, type, pos, after, guard⟩).run P w) := fun he => by
      split at he
      · exact hvalw _ he
      · exact hval he
    cases f with
    | func f' =>
      simp only [evalOp] at he
      split at he
      · split at he
        · split at he
          · rename_i ps hps
            split at he
            · rename_i r0 H1 hcl
              split at he
              · rename_i hsc
                cases he
                refine hent hcl h.inv.all (RVs.lend h.inv hps (hxs args.toList)) (hv f' rfl _ rfl) fun v w' g1 h1 h2 h3 => ?_
                obtain ⟨h4, h5⟩ := after_lend h.inv h3
                exact hK v w' g h4 (RV.scal hsc h2) h5
              · cases he
            · cases he
          · cases he
        · exact hent he h.inv (hxs args.toList) (hv f' rfl _ rfl) hK
      · split at he
        · rename_i r0 H1 hcl
          refine hent hcl h.inv.bare (hxs args.toList).bare (hv f' rfl _ rfl) fun v w' g1 h1 h2 h3 => ?_
          obtain ⟨g2, h4, h5, h6⟩ := after_bare h.inv h1 h3
          split at he
          · cases he
            exact hK v w' g2 h4 (RV.ren h6 h2) h5
          · cases he
            obtain ⟨g3, h7, h8, h9⟩ := after_none h.inv h1 h3
            exact hK v w' g3 h7 (RV.ren h9 h2) h8
        · cases he
    | tmp t => exact hboth he
    | const v => exact hboth he
    | global n => exact hboth he
end
end Go.Proofs.YtnljpfjoboafoaaDoor.Ev
