/- What an operation reads of the heap, and what it leaves. -/
import Derived.Test.YtnljpfjoboafoaaDoorEv15
namespace Go.Proofs.YtnljpfjoboafoaaDoor.Ev
set_option linter.all false
open Go Go.RowKit

def COp.st : COp → Bool
  | .store _ _ _ => true
  | .appr _ _ _ _ => true
  | .call refs _ _ _ => refs
  | .callv _ _ => true
  | _ => false
def COp.wr : COp → Bool
  | .store _ _ _ | .alloc _ | .box _ | .cut0 _ _ | .frz _ | .s2b _ _ | .app _ _ _ _ | .appr _ _ _ _ | .litr _ _ _ _ | .callv _ _ => true
  | .lit keep _ _ _ _ => keep
  | .call refs keep _ _ => refs || keep
  | .callw keep _ _ => keep
  | _ => false

/-- Does it tell the same whatever the heap, and leave it? -/
def COp.calm : COp → Bool
  | .mv _ | .pick _ _ _ | .build _ _ | .bin _ _ _ | .beq _ _ _ | .snil _ _ | .inil _ _ | .aeq _ _ _ _ | .un _ _ | .cvt _ _ | .cvs _ | .cut _ _ _ _ | .fad _ _ | .iad _ _ _ | .idx _ _ | .ext _ _ | .prt _ _ _ _ | .iaa _ _ _ _ | .boxc _ | .clo _ _ | .len _ _ | .min _ _ | .max _ _ | .chk _ => true
  | .lit keep _ _ _ _ => !keep
  | .call refs keep _ _ => !refs && !keep
  | .callw keep _ _ => !keep
  | _ => false
theorem calm_wr {o : COp} (h : o.calm = true) : o.wr = false := by
  cases o <;> simp only [COp.calm, Bool.false_eq_true, Bool.not_eq_true', Bool.and_eq_true] at h <;> simp only [COp.wr]
  · exact h
  · rw [h.1, h.2]; rfl
  · exact h
theorem wr_st {o : COp} (h : o.wr = false) : o.st = false := by
  cases o <;> simp only [COp.wr, Bool.true_eq_false, Bool.or_eq_false_iff] at h <;> simp only [COp.st]
  exact h.1

section
variable {call : Nat → List PV → Hp → Option (PV × Hp)}
theorem evalOp_calm {tm : List PV} {H H' : Hp} {o : COp} {r : PV} (hw : o.calm = true) (h : evalOp call tm H o = some (r, H')) : H' = H ∧ ∀ H2 : Hp, evalOp call tm H2 o = some (r, H2) := by
  cases o <;> simp only [COp.calm, Bool.false_eq_true, Bool.not_eq_true', Bool.and_eq_true] at hw
  case lit keep sz n zs ps =>
    subst hw
    simp only [evalOp, Bool.false_eq_true, if_false] at h
    split at h
    · rename_i cs hf
      split at h
      · rename_i ds hd
        split at h
        · rename_i hl
          cases h
          exact ⟨rfl, fun H2 => by simp only [evalOp, hf, hd]; rw [if_pos hl]; simp only [Bool.false_eq_true, if_false]⟩
        · cases h
      · cases h
    · cases h
  case call refs keep f args =>
    obtain ⟨rfl, rfl⟩ := hw
    simp only [evalOp, Bool.false_eq_true, if_false] at h
    split at h
    · rename_i r0 H1 hcl
      cases h
      exact ⟨rfl, fun H2 => by simp only [evalOp, Bool.false_eq_true, if_false, hcl]⟩
    · cases h
  case callw keep x args =>
    subst hw
    simp only [evalOp, Bool.false_eq_true, if_false] at h
    split at h
    · rename_i f caps hf
      split at h
      · rename_i r0 H1 hcl
        cases h
        exact ⟨rfl, fun H2 => by simp only [evalOp, Bool.false_eq_true, if_false, hf, hcl]⟩
      · cases h
    · cases h
  all_goals
    refine ⟨?_, fun H2 => ?_⟩ <;> simp only [evalOp] at h ⊢ <;> (repeat' split at h) <;> first | (cases h; done) | (cases h; rfl) | (cases h; simp_all; done) | (cases h; simp_all; omega)

/-- Entries that are variables stay what they are. -/
def CellsLe (H H' : Hp) : Prop := ∀ (id : Nat) cs, H[id]? = some (.cells cs) → id < H'.length → H'[id]? = some (.cells cs)

theorem evalOp_read {tm : List PV} {H H' : Hp} {o : COp} {r : PV} (hw : o.wr = false) (h : evalOp call tm H o = some (r, H')) : H' = H ∧
    ∀ H2 : Hp, CellsLe H H2 → (∀ x ∈ o.xs, (∀ id off, x.ev tm = .ptr id off → id < H2.length) ∧ (∀ id off sz n, x.ev tm = .row id off sz n → id < H2.length)) → evalOp call tm H2 o = some (r, H2) := by
  cases o <;> simp only [COp.wr, reduceCtorEq] at hw
  case load agg n a =>
    simp only [evalOp] at h
    split at h
    · rename_i id off hp
      split at h
      · rename_i cs hcs
        split at h
        · rename_i p hof
          cases h
          refine ⟨rfl, fun H2 hc hx => ?_⟩
          have := hc id cs hcs ((hx a (by simp [COp.xs])).1 id off hp)
          simp only [evalOp, hp, this, hof]
        · cases h
      · cases h
    · rename_i cs off hp
      split at h
      · rename_i p hof
        cases h
        exact ⟨rfl, fun H2 _ _ => by simp only [evalOp, hp, hof]⟩
      · cases h
    · cases h
  case b2s x =>
    simp only [evalOp] at h
    split at h
    · rename_i t n cs hp
      split at h
      · cases h
        rename_i h0
        exact ⟨rfl, fun H2 _ _ => by simp only [evalOp, hp]; rw [if_pos h0]⟩
      · rename_i h0
        split at h
        · rename_i hsz
          split at h
          · rename_i l hl
            cases h
            exact ⟨rfl, fun H2 _ _ => by simp only [evalOp, hp]; rw [if_neg h0, if_pos hsz, hl]⟩
          · cases h
        · cases h
    · rename_i id off n hp
      split at h
      · rename_i cs hcs
        split at h
        · rename_i hn
          split at h
          · rename_i l hl
            cases h
            refine ⟨rfl, fun H2 hc hx => ?_⟩
            have := hc id cs hcs ((hx x (by simp [COp.xs])).2 id off 1 n hp)
            simp only [evalOp, hp, this]
            rw [if_pos hn, hl]
          · cases h
        · cases h
      · cases h
    · cases h
  case call refs keep f args =>
    simp only [Bool.or_eq_false_iff] at hw
    obtain ⟨rfl, rfl⟩ := hw
    simp only [evalOp, Bool.false_eq_true, if_false] at h
    split at h
    · rename_i r0 H1 hcl
      cases h
      exact ⟨rfl, fun H2 _ _ => by simp only [evalOp, Bool.false_eq_true, if_false, hcl]⟩
    · cases h
  case callw keep x args =>
    subst hw
    simp only [evalOp, Bool.false_eq_true, if_false] at h
    split at h
    · rename_i f caps hf
      split at h
      · rename_i r0 H1 hcl
        cases h
        exact ⟨rfl, fun H2 _ _ => by simp only [evalOp, Bool.false_eq_true, if_false, hf, hcl]⟩
      · cases h
    · cases h
  case lit keep sz n zs ps =>
    subst hw
    simp only [evalOp, Bool.false_eq_true, if_false] at h
    split at h
    · rename_i cs hf
      split at h
      · rename_i ds hd
        split at h
        · rename_i hl
          cases h
          exact ⟨rfl, fun H2 _ _ => by simp only [evalOp, hf, hd]; rw [if_pos hl]; simp only [Bool.false_eq_true, if_false]⟩
        · cases h
      · cases h
    · cases h
  all_goals
    refine ⟨?_, fun H2 _ _ => ?_⟩ <;> simp only [evalOp] at h ⊢ <;> (repeat' split at h) <;> first | (cases h; done) | (cases h; rfl) | (cases h; simp_all; done) | (cases h; simp_all; omega)

theorem evalOp_push {tm : List PV} {H H' : Hp} {o : COp} {r : PV} (hs : o.st = false) (h : evalOp call tm H o = some (r, H')) : H.length ≤ H'.length ∧ ∀ (id : Nat) cs, id < H.length → (H'[id]? = some (.cells cs) ↔ H[id]? = some (.cells cs)) := by
  have app : ∀ (L : Hp), H' = H ++ L → H.length ≤ H'.length ∧ ∀ (id : Nat) cs, id < H.length → (H'[id]? = some (.cells cs) ↔ H[id]? = some (.cells cs)) := fun L e => by
    subst e
    exact ⟨by simp, fun id cs hid => by rw [List.getElem?_append_left hid]⟩
  have kill : ∀ k (L : Hp), H[k]? = some .tok → H' = H.set k .dead ++ L → H.length ≤ H'.length ∧ ∀ (id : Nat) cs, id < H.length → (H'[id]? = some (.cells cs) ↔ H[id]? = some (.cells cs)) := fun k L hk e => by
    subst e
    refine ⟨by simp, fun id cs hid => ?_⟩
    rw [List.getElem?_append_left (by simpa using hid), get_set_dead]
    by_cases hc : k = id ∧ k < H.length
    · rw [if_pos hc]
      obtain ⟨rfl, _⟩ := hc
      rw [hk]
      simp
    · rw [if_neg hc]
  cases hw : o.wr with
  | false =>
    obtain ⟨rfl, _⟩ := evalOp_read hw h
    exact app [] (by simp)
  | true =>
    cases o <;> simp only [COp.wr, COp.st, reduceCtorEq] at hw hs
    case alloc zs => simp only [evalOp, Option.some.injEq, Prod.mk.injEq] at h; exact app _ h.2.symm
    case box x =>
      simp only [evalOp] at h
      split at h
      · cases h; exact app _ rfl
      · cases h
    case lit keep sz n zs ps =>
      subst hw
      simp only [evalOp, if_true] at h
      (repeat' split at h) <;> first | (cases h; done) | (cases h; exact app _ rfl)
    case litr sz n zs ps =>
      simp only [evalOp] at h
      (repeat' split at h) <;> first | (cases h; done) | (cases h; exact app _ rfl)
    case frz x =>
      simp only [evalOp] at h
      split at h
      · rename_i k sz n cs hp
        split at h
        · rename_i hk
          split at h
          · cases h; exact app [] (by simp)
          · cases h
        · cases h
      · cases h
    case s2b rowed x =>
      simp only [evalOp] at h
      split at h
      · split at h <;> (cases h; exact app _ rfl)
      · cases h
    case cut0 sz x =>
      simp only [evalOp] at h
      split at h
      · cases h; exact app _ rfl
      · cases h; exact app _ rfl
      · cases h
    case app sz bytes x y =>
      simp only [evalOp] at h
      split at h
      · split at h
        · split at h
          · cases h; exact app _ rfl
          · rename_i k _
            split at h
            · rename_i hk; cases h; exact kill k _ hk rfl
            · cases h
          · cases h
        · cases h
      · cases h
    case callw keep x args =>
      subst hw
      simp only [evalOp, if_true] at h
      split at h
      · split at h
        · cases h; exact app _ rfl
        · cases h
      · cases h
    case call refs keep f args =>
      subst hs
      simp only [Bool.false_or] at hw
      subst hw
      simp only [evalOp, Bool.false_eq_true, if_false, if_true] at h
      split at h
      · cases h; exact app _ rfl
      · cases h
end
end Go.Proofs.YtnljpfjoboafoaaDoor.Ev
