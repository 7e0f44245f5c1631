/- What each operation of the model does, told by the evaluator's: those that call nothing. -/
import Derived.Test.YtnljpfjoboafoaaDoorEv4
import Derived.Laws.OwnMore
import Derived.Laws.Strings
namespace Go.Proofs.YtnljpfjoboafoaaDoor.Ev
set_option linter.all false
open Go Go.RowKit

/-- A step of the model comes to r, and to the heap H'. -/
def Runs (P : Program) (g : Gh) (H : Hp) (w : World) (s : Sem Next) (r : PV) (H' : Hp) : Prop :=
  ∃ nx v w' g', s.run P w = .ok nx w' ∧ (nx = .value v ∨ (nx = .skip ∧ v = undef)) ∧ Inv g' H' w' ∧ RV g' H' r v ∧ Ext g H w g' H' w'
theorem Runs.same {P : Program} {g : Gh} {H : Hp} {w : World} {s : Sem Next} {r : PV} {v : Value} (hI : Inv g H w) (h : s.run P w = .ok (.value v) w) (hv : RV g H r v) : Runs P g H w s r H :=
  ⟨.value v, v, w, g, h, .inl rfl, hI, hv, Ext.refl g H w⟩
theorem Runs.of {P : Program} {g : Gh} {H : Hp} {w : World} {s : Sem Next} {r : PV} {H' : Hp} {v : Value} {w' : World} {g' : Gh} (h : s.run P w = .ok (.value v) w') (hI : Inv g' H' w') (hv : RV g' H' r v) (hE : Ext g H w g' H' w') : Runs P g H w s r H' :=
  ⟨.value v, v, w', g', h, .inl rfl, hI, hv, hE⟩

theorem run_v {P : Program} {w : World} (s : Sem Value) : (do pure (Next.value (← s)) : Sem Next).run P w = (s.run P w).andThen fun v w' => .ok (.value v) w' := by
  simp
theorem run_v_ok {P : Program} {w w' : World} {s : Sem Value} {v : Value} (h : s.run P w = .ok v w') : (do pure (Next.value (← s)) : Sem Next).run P w = .ok (.value v) w' := by
  rw [run_v, h]; rfl

/-! ### Constants -/
def cvc : Value → PV
  | .bool b => .bool b
  | .int k n => .int k n
  | .string s => .str s.data.toList
  | .pointer none => .nilp
  | .nilIface => .ifc true
  | .slice none 0 0 => .sl .nil 0 0 []
  | .func (.func f) first caps => if first.isEmpty && caps.isEmpty then .fn f [] else .bot
  | _ => .bot
def cvv : Value → PV
  | .agg cs => .agg (cs.toList.map cvc)
  | v => cvc v
theorem RC_cvc (σ : Sg) (v : Value) : RC σ (cvc v) v := by
  unfold cvc
  split
  · simp only [RC]
  · simp only [RC]
  · simp only [RC]
  · simp only [RC]
  · simp only [RC]; exact .inl ⟨trivial, trivial⟩
  · simp only [RC]
    refine ⟨fun k h => (by cases h), none, 0, rfl, Nat.le_refl _, fun _ => by simp, ?_, fun h => absurd h (Nat.lt_irrefl 0)⟩
    simp
  · rename_i f first caps
    split
    · rename_i h
      simp only [Bool.and_eq_true, Array.isEmpty_iff] at h
      obtain ⟨rfl, rfl⟩ := h
      simp only [RC]
      exact ⟨trivial, trivial⟩
    · simp only [RC]
  · simp only [RC]
theorem RCs_map {σ : Sg} : ∀ l : List Value, RCs σ (l.map cvc) l
  | [] => by simp only [List.map_nil, RCs]
  | v :: l => by simp only [List.map_cons, RCs]; exact ⟨v, l, rfl, RC_cvc σ v, RCs_map l⟩
theorem RC_cvv (σ : Sg) (v : Value) : RC σ (cvv v) v := by
  unfold cvv
  split
  · simp only [RC]; exact ⟨_, rfl, RCs_map _⟩
  · exact RC_cvc σ _
def cx : Operand → X
  | .tmp t => .t t
  | .const v => .c (cvv v)
  | .global _ => .c .bot
  | .func f => .c (.fn f [])
theorem cx_ev {g : Gh} {H : Hp} {tm : List PV} {a : Act} (h : RVs g H tm a.tmps.toList) (x : Operand) : RV g H ((cx x).ev tm) (a.eval x) := by
  cases x with
  | tmp t =>
    show RV g H (tm.getD t .bot) (a.tmps.getD t undef)
    cases e : tm[t]? with
    | none => rw [List.getD_eq_getElem?_getD, e]; simp only [Option.getD_none, RV]
    | some p =>
      obtain ⟨v, h1, h2⟩ := h.get e
      rw [List.getD_eq_getElem?_getD, e, Array.getD_eq_getD_getElem?]
      have : a.tmps[t]? = some v := by simpa using h1
      rw [this]
      exact h2
  | const v => exact RV.of_RC (RC_cvv _ v)
  | global n => show RV g H .bot _; simp only [RV]
  | func f => show RV g H (.fn f []) _; simp only [RV, RVs]; exact ⟨[], rfl, rfl⟩

/-! ### Cells of a value -/
theorem one_ok {g : Gh} {H : Hp} {p : PV} {v : Value} (h : p.one = true) (hr : RV g H p v) : v.oneCell' = true := by
  cases p with
  | bot | und | agg | tup | ifc | ne0 => simp [PV.one] at h
  | bool | int | str | nilp => simp only [RV] at hr; subst hr; rfl
  | sl t sz n cs =>
    cases t with
    | no | nil => simp only [RV, RC] at hr; obtain ⟨_, a, cap, rfl, _⟩ := hr; rfl
    | tok k => simp only [RV, RC] at hr; obtain ⟨_, ⟨_, a, cap, rfl, _⟩, _⟩ := hr; rfl
  | row => simp only [RV] at hr; obtain ⟨_, _, _, _, _, _, rfl, _⟩ := hr; rfl
  | ptr => simp only [RV] at hr; obtain ⟨_, _, _, _, _, rfl⟩ := hr; rfl
  | ep => simp only [RV, RC] at hr; obtain ⟨_, _, _, rfl, _⟩ := hr; rfl
  | fn => simp only [RV] at hr; obtain ⟨_, rfl, _⟩ := hr; rfl
theorem one_okC {σ : Sg} {p : PV} {v : Value} (h : p.one = true) (hr : RC σ p v) : v.oneCell' = true := one_ok (g := ⟨σ, fun _ => none⟩) (H := []) h (RV.of_RC hr)
theorem ones_okC {σ : Sg} : ∀ {ps : List PV} {vs : List Value}, ps.all PV.one = true → RCs σ ps vs → ∀ v ∈ vs, v.oneCell' = true
  | [], vs, _, hr, v, hv => by simp only [RCs] at hr; subst hr; cases hv
  | p :: ps, vs, h, hr, v, hv => by
    simp only [List.all_cons, Bool.and_eq_true] at h
    simp only [RCs] at hr
    obtain ⟨u, r, rfl, h1, h2⟩ := hr
    rcases List.mem_cons.1 hv with rfl | hv
    · exact one_okC h.1 h1
    · exact ones_okC h.2 h2 v hv
theorem cells_one {v : Value} (h : v.oneCell' = true) : v.cells = #[v] := by cases v <;> first | rfl | simp [Value.oneCell'] at h
theorem cells_ok {g : Gh} {H : Hp} {p : PV} {v : Value} {cs : List PV} (h : p.cells? = some cs) (hr : RV g H p v) : RVs g H cs v.cells.toList ∧ ∀ u ∈ v.cells.toList, u.oneCell' = true := by
  have hone : ∀ p : PV, p.one = true → RV g H p v → p.cells? = some [p] → p.cells? = some cs → RVs g H cs v.cells.toList ∧ ∀ u ∈ v.cells.toList, u.oneCell' = true := fun p h1 hr h2 h3 => by
    rw [h2] at h3
    cases h3
    have ho := one_ok h1 hr
    rw [cells_one ho]
    simp only [RVs]
    exact ⟨⟨v, [], rfl, hr, rfl⟩, fun u hu => by simp at hu; subst hu; exact ho⟩
  cases p with
  | bot | und | tup | ifc | ne0 => simp [PV.cells?, PV.one] at h
  | agg ds =>
    simp only [PV.cells?] at h
    split at h
    · rename_i hall
      have e := Option.some.inj h
      subst e
      simp only [RV] at hr
      obtain ⟨vs, rfl, hr⟩ := hr
      refine ⟨hr, fun u hu => ?_⟩
      obtain ⟨i, hi, rfl⟩ := List.getElem_of_mem hu
      have hi' : i < vs.length := hi
      have hl := hr.length
      have := (RVs_iff.1 hr).2 i (ds[i]'(by omega)) (vs[i]) (List.getElem?_eq_getElem _) (List.getElem?_eq_getElem _)
      exact one_ok (List.all_eq_true.1 hall _ (List.getElem_mem _)) this
    · cases h
  | bool | int | str | nilp | sl | row | ptr | ep | fn => exact hone _ rfl hr rfl h

theorem foldl_set (off : Nat) : ∀ (l : List Value) (k : Nat) (c : Array Value), off + k + l.length ≤ c.size →
    ((l.zipIdx k).foldl (fun cs (x : Value × Nat) => cs.setIfInBounds (off + x.2) x.1) c).toList = c.toList.take (off + k) ++ l ++ c.toList.drop (off + k + l.length)
  | [], k, c, h => by simp
  | v :: l, k, c, h => by
    simp only [List.zipIdx_cons, List.foldl_cons]
    simp only [List.length_cons] at h
    rw [foldl_set off l (k + 1) _ (by simp; omega)]
    simp only [Array.toList_setIfInBounds]
    rw [show off + (k + 1) = off + k + 1 by omega, List.take_succ_eq_append_getElem (by simp; omega), List.getElem_set_self, List.take_set_of_le (by omega), List.drop_set_of_lt (by omega)]
    simp [Nat.add_assoc, Nat.add_comm, Nat.add_left_comm]

theorem fill_ok {g : Gh} {H : Hp} (place : Nat → Option (Nat × Nat)) (ev : Operand → Value) (evx : X → PV) (hx : ∀ x, RV g H (evx (cx x)) (ev x)) : ∀ (parts : List (Nat × Operand)) (cps : List (Nat × Nat × X)) (zs cs : List PV) (zv : Array Value),
    (parts.mapM fun (i, x) => (place i).map fun (o, s) => (o, s, cx x)) = some cps → RVs g H zs zv.toList → fillP zs (cps.map fun (o, s, x) => (o, s, evx x)) = some cs →
    ∃ cv, Instr.fill place zv (parts.map fun (i, x) => (i, ev x)) = some cv ∧ RVs g H cs cv.toList
  | [], cps, zs, cs, zv, hm, hz, hf => by
    simp at hm
    subst hm
    simp only [List.map_nil, fillP, Option.some.injEq] at hf
    subst hf
    exact ⟨zv, rfl, hz⟩
  | (i, x) :: parts, cps, zs, cs, zv, hm, hz, hf => by
    simp only [List.mapM_cons, Option.bind_eq_bind, Option.bind_eq_some_iff, Option.map_eq_some_iff, Option.pure_def, Option.some.injEq] at hm
    obtain ⟨y, ⟨⟨o, s⟩, hp, rfl⟩, r, hr, rfl⟩ := hm
    simp only [List.map_cons, fillP] at hf
    split at hf
    · rename_i ps hps
      split at hf
      · rename_i hc
        obtain ⟨hcl, hco⟩ := hc
        obtain ⟨h1, _⟩ := cells_ok hps (hx x)
        have hl1 := h1.length
        have hl2 := hz.length
        simp only [Array.length_toList] at hl1 hl2
        have hno : ¬ ((ev x).cells.size ≠ s ∨ o + (ev x).cells.size > zv.size) := by omega
        have hfold : (Array.foldl (fun cs (x : Value × Nat) => cs.setIfInBounds (o + x.2) x.1) zv (ev x).cells.zipIdx).toList = zv.toList.take o ++ (ev x).cells.toList ++ zv.toList.drop (o + s) := by
          rw [← Array.foldl_toList, Array.toList_zipIdx, foldl_set o _ 0 zv (by simp; omega)]
          simp only [Nat.add_zero, Array.length_toList]
          rw [show (ev x).cells.size = s by omega]
        obtain ⟨cv, h2, h3⟩ := fill_ok place ev evx hx parts r _ cs (Array.foldl (fun cs (x : Value × Nat) => cs.setIfInBounds (o + x.2) x.1) zv (ev x).cells.zipIdx) hr (by rw [hfold]; exact ((hz.take o).append h1).append (hz.drop _)) hf
        refine ⟨cv, ?_, h3⟩
        simp only [List.map_cons, Instr.fill, hp]
        rw [if_neg (by simpa using hno)]
        exact h2
      · cases hf
    · cases hf
end Go.Proofs.YtnljpfjoboafoaaDoor.Ev
