/- Regions that draw their order, in which variables are made and written: the theorem. -/
import Derived.Test.YtnljpfjoboafoaaDoorEvE
namespace Go.Proofs.YtnljpfjoboafoaaDoor.Ev
set_option linter.all false
open Go Go.RowKit

section
variable {P : Program} {g : Gh} {H : Hp} {w : World}

theorem pads_cells (e : Nat → Eff) : ∀ m i o, o ∈ pads e i m → ∃ cs, o = .cells cs
  | 0, _, _, h => by cases h
  | m + 1, i, o, h => by
    simp only [pads, List.mem_append] at h
    rcases h with h | h
    · cases he : e i with
      | al cs => rw [he] at h; simp only [List.mem_singleton] at h; exact ⟨cs, h⟩
      | no => rw [he] at h; cases h
      | st id cs => rw [he] at h; cases h
    · exact pads_cells e m (i + 1) o h
/-- Entries that stand for nothing yet. -/
theorem pad_ok (hI : Inv g H w) {Pd : Hp} (hp : ∀ o ∈ Pd, ∃ cs, o = Ob.cells cs) :
    ∃ g', Inv g' (H ++ Pd) w ∧ Ext g H w g' (H ++ Pd) w ∧ ∀ id, H.length ≤ id → g'.μ id = none := by
  have mu : ∀ {id x}, (if id < H.length then g.μ id else none) = some x → id < H.length ∧ g.μ id = some x := fun {id x} h => by
    split at h
    · rename_i hl; exact ⟨hl, h⟩
    · cases h
  have hal : ∀ {id}, id < H.length → (Alive (H ++ Pd) id ↔ Alive H id) := fun {id} hl => by unfold Alive; rw [List.getElem?_append_left hl]
  have hE : Ext g H w ⟨g.σ, fun id => if id < H.length then g.μ id else none⟩ (H ++ Pd) w := by
    refine ⟨fun _ _ _ h => h, fun id hid => if_pos hid, by simp, fun k hk ht => ?_, rfl, rfl, rfl, Nat.le_refl _, fun _ _ _ => rfl, fun _ _ _ _ => rfl, fun b ⟨id, e, top, ha, hm⟩ => ?_⟩
    · rw [List.getElem?_append_left hk] at ht
      exact ⟨ht, if_pos hk⟩
    · obtain ⟨hl, hm'⟩ := mu hm
      exact .inl ⟨id, e, top, (hal hl).1 ha, hm'⟩
  refine ⟨⟨g.σ, fun id => if id < H.length then g.μ id else none⟩, ⟨hI.σw, hI.one, hI.z, fun id b e top ha hm => ?_, fun id cs b e top hc hm => ?_, fun id id' b e top e' top' ha ha' hm hm' => ?_, hI.c.ext hE⟩, hE, fun id hid => if_neg (by omega)⟩
  · obtain ⟨hl, hm'⟩ := mu hm
    exact hI.blk id b e top ((hal hl).1 ha) hm'
  · obtain ⟨hl, hm'⟩ := mu hm
    rw [List.getElem?_append_left hl] at hc
    obtain ⟨h1, us, h2, h3⟩ := hI.obj id cs b e top hc hm'
    exact ⟨h1, us, h2.ext hE, h3⟩
  · obtain ⟨hl, hm1⟩ := mu hm
    obtain ⟨hl', hm2⟩ := mu hm'
    exact hI.dist id id' b e top e' top' ((hal hl).1 ha) ((hal hl').1 ha') hm1 hm2

/-- Such an entry gets its block. -/
theorem fill_obj {w' : World} (hI : Inv g H w) {carr : Array Value} {el : TypeId} {fr : Nat × Nat} (hw : w'.heap = w.heap.push (.cells carr el fr))
    (h1 : w'.os = w.os) (h2 : w'.tape = w.tape) (h3 : w'.output = w.output) {k : Nat} {cs : List PV} {us : List Value} (hk : H[k]? = some (.cells cs)) (hm0 : g.μ k = none) (hr : RVs g H cs us) (hus : ∀ (i : Nat) v, us[i]? = some v → carr[i]? = some v)
    (hl : us.length ≤ carr.size) (hf : FrOk fr carr.size) :
    ∃ g', Inv g' H w' ∧ RenOk some g H g' H ∧ (∀ i, i ≠ k → g'.μ i = g.μ i) ∧ g'.μ k = some (w.heap.size, 0, carr.size) ∧
      ∀ {g0 : Gh} {H0 : Hp} {w0 : World}, H0.length ≤ k → Ext g0 H0 w0 g H w → Ext g0 H0 w0 g' H w' := by
  have hkl : k < H.length := (List.getElem?_eq_some_iff.1 hk).1
  have hRen : RenOk some g H ⟨g.σ, muPut g.μ k (some (w.heap.size, 0, carr.size))⟩ H := by
    refine ⟨fun _ _ _ h => h, fun i i' e hi => by cases e; exact hi, fun i i' x e hi hx => ?_, fun i i' e hi ht => ?_⟩
    · cases e
      have hne : i ≠ k := fun h => by subst h; rw [hm0] at hx; cases hx
      exact (muPut_ne hne).trans hx
    · cases e
      have hne : i ≠ k := fun h => by subst h; rw [hk] at ht; cases ht
      exact ⟨ht, muPut_ne hne⟩
  have ext1 : ∀ {p v}, RV g H p v → RV ⟨g.σ, muPut g.μ k (some (w.heap.size, 0, carr.size))⟩ H p v := fun {p v} h => by
    have := RV.ren hRen h
    rwa [PV.ren_some] at this
  have exts : ∀ {p v}, RVs g H p v → RVs ⟨g.σ, muPut g.μ k (some (w.heap.size, 0, carr.size))⟩ H p v := fun {p v} h => by
    have := RVs.ren hRen h
    rwa [PV.rens_some] at this
  have hsz : w'.heap.size = w.heap.size + 1 := by rw [hw]; simp
  have cases_ : ∀ {id b e top}, muPut g.μ k (some (w.heap.size, 0, carr.size)) id = some (b, e, top) → (id = k ∧ b = w.heap.size ∧ e = 0 ∧ top = carr.size) ∨ (id ≠ k ∧ g.μ id = some (b, e, top)) := fun {id b e top} h => by
    by_cases hid : id = k
    · subst hid
      rw [muPut_self] at h
      cases h
      exact .inl ⟨rfl, rfl, rfl, rfl⟩
    · rw [muPut_ne hid] at h
      exact .inr ⟨hid, h⟩
  have hnew := get_push_new hw
  have hul := hr.length
  refine ⟨⟨g.σ, muPut g.μ k (some (w.heap.size, 0, carr.size))⟩, ⟨fun b o v hv => cell_push_old hw (hI.σw b o v hv), hI.one, hI.z, fun id b e top ha hm => ?_, fun id ds b e top hc hm => ?_, fun id id' b e top e' top' ha ha' hm hm' => ?_, fun b hb => ?_⟩, hRen, fun i hi => muPut_ne hi, muPut_self _ _ _, fun {g0 H0 w0} hle hE => ?_⟩
  · rcases cases_ hm with ⟨rfl, rfl, rfl, rfl⟩ | ⟨hne, hm'⟩
    · exact ⟨carr, el, fr, hnew, Nat.zero_le _, Nat.le_refl _, hf, fun o _ => hI.σ_new _ (Nat.le_refl _)⟩
    · obtain ⟨c2, el2, fr2, h4, h5⟩ := hI.blk id b e top ha hm'
      exact ⟨c2, el2, fr2, by rw [get_push_old hw (hI.lt ha hm')]; exact h4, h5⟩
  · rcases cases_ hm with ⟨rfl, rfl, rfl, rfl⟩ | ⟨hne, hm'⟩
    · rw [hk] at hc
      cases hc
      refine ⟨by rw [Nat.zero_add, hul]; exact hl, us, exts hr, fun i v hv => ?_⟩
      have := hus i v hv
      unfold World.cell?
      simp only [hnew]
      simpa using this
    · obtain ⟨h4, us', h5, h6⟩ := hI.obj id ds b e top hc hm'
      exact ⟨h4, us', exts h5, fun i v hv => cell_push_old hw (h6 i v hv)⟩
  · rcases cases_ hm with ⟨rfl, hb, _, _⟩ | ⟨hne, hm1⟩ <;> rcases cases_ hm' with ⟨rfl, hb', _, _⟩ | ⟨hne', hm2⟩
    · rfl
    · have := hI.lt ha' hm2; omega
    · have := hI.lt ha hm1; omega
    · exact hI.dist id id' b e top e' top' ha ha' hm1 hm2
  · obtain ⟨cs, el, fr, h4, h5, h6⟩ := hI.c b hb
    have hbl : b < w.heap.size := (Array.getElem?_eq_some_iff.1 h4).1
    refine ⟨cs, el, fr, by rw [get_push_old hw hbl]; exact h4, h5, fun ⟨id, e, top, ha, hm⟩ => ?_⟩
    rcases cases_ hm with ⟨_, rfl, _, _⟩ | ⟨_, hm'⟩
    · omega
    · exact h6 ⟨id, e, top, ha, hm'⟩
  · refine ⟨hE.σ, fun id hid => (muPut_ne (by omega)).trans (hE.μ id hid), hE.len, fun i hi ht => ?_, h1.trans hE.os, h2.trans hE.tape, h3.trans hE.output, by have := hE.size; omega, fun i hi ho => ?_, hE.σf, fun b ⟨id, e, top, ha, hm⟩ => ?_⟩
    · obtain ⟨h4, h5⟩ := hE.tok i hi ht
      exact ⟨h4, (muPut_ne (by omega)).trans h5⟩
    · rw [get_push_old hw (by have := hE.size; omega)]
      exact hE.frame i hi ho
    · rcases cases_ hm with ⟨rfl, rfl, _, _⟩ | ⟨hne, hm'⟩
      · exact .inr hE.size
      · exact hE.own b ⟨id, e, top, ha, hm'⟩
end

section
variable {P : Program} {call : Nat → List PV → Hp → Option (PV × Hp)} {Q : Exit → Act → World → Prop} {ops : Array Oper}
theorem comp_alloc {fl : Nat} {o : Oper} {zs : List PV} (h : comp P fl o = .alloc zs) : ∃ T i z, o.op = .alloc T ∧ P.info? T = some i ∧ i.zero = some z ∧ zs = z.cells.toList.map cvc := by
  obtain ⟨dst, op, type, pos, after, guard⟩ := o
  cases op
  case alloc T =>
    simp only [comp] at h
    split at h
    · rename_i i hi
      split at h
      · rename_i z hz
        cases h
        exact ⟨T, i, z, rfl, hi, hz, rfl⟩
      · cases h
    · cases h
  case call c =>
    exfalso
    obtain ⟨callee, args, argTypes⟩ := c
    cases callee with
    | value f => revert h; cases f <;> simp only [comp] <;> (repeat' split) <;> simp
    | invoke rv m => simp [comp] at h
    | builtin b => revert h; cases b <;> simp only [comp] <;> (repeat' split) <;> simp
  case makeFunc fn first caps =>
    exfalso
    revert h
    cases fn <;> simp only [comp] <;> (repeat' split) <;> simp
  all_goals
    exfalso
    revert h
    simp only [comp]
    (repeat' split) <;> simp
theorem comp_box {fl : Nat} {o : Oper} {x : X} (h : comp P fl o = .box x) : ∃ T y, o.op = .box T y ∧ x = cx y := by
  obtain ⟨dst, op, type, pos, after, guard⟩ := o
  cases op
  case box T y =>
    simp only [comp] at h
    split at h
    · cases h
    · cases h
      exact ⟨T, y, rfl, rfl⟩
  case call c =>
    exfalso
    obtain ⟨callee, args, argTypes⟩ := c
    cases callee with
    | value f => revert h; cases f <;> simp only [comp] <;> (repeat' split) <;> simp
    | invoke rv m => simp [comp] at h
    | builtin b => revert h; cases b <;> simp only [comp] <;> (repeat' split) <;> simp
  case makeFunc fn first caps =>
    exfalso
    revert h
    cases fn <;> simp only [comp] <;> (repeat' split) <;> simp
  all_goals
    exfalso
    revert h
    simp only [comp]
    (repeat' split) <;> simp

/-- A variable is made whose entry is there. -/
theorem fresh_wp {g : Gh} {tm : List PV} {H : Hp} {a : Act} {w : World} (h : StOk g tm H a w) {i fl : Nat} {o : Oper} {c : CO} (ho : ops[i]? = some o) (hc : compO P ops fl o = some c) (hw : wantP tm c.g = some true)
    {cs : List PV} (hop : c.op = .alloc cs ∨ ∃ x, c.op = .box x ∧ (x.ev tm).cells? = some cs) {k : Nat} (hk : H[k]? = some (.cells cs)) (hm : g.μ k = none) {K : Act → World → Prop}
    (hK : ∀ a' w' g', StOk g' (putP tm c.dst (.ptr k 0)) H a' w' → (∀ i, i ≠ k → g'.μ i = g.μ i) → (∀ {g0 : Gh} {H0 : Hp} {w0 : World}, H0.length ≤ k → Ext g0 H0 w0 g H w → Ext g0 H0 w0 g' H w') → K a' w') : wpOp P ops Q i K a w := by
  obtain ⟨hd, hcop⟩ := compO_dst hc
  unfold wpOp
  simp only [ho]
  rw [wantP_ok h.tm hc hw, if_pos rfl]
  refine .inl ?_
  have hkl : k < H.length := (List.getElem?_eq_some_iff.1 hk).1
  have fin : ∀ {carr : Array Value} {el : TypeId} {us : List Value}, (execOp a.eval o).run P w = .ok (.value (.pointer (some ⟨w.heap.size, 0, none⟩))) { w with heap := w.heap.push (.cells carr el) } → RVs g H cs us → (∀ (i : Nat) v, us[i]? = some v → carr[i]? = some v) → us.length ≤ carr.size → o.wp P a w K Q := fun {carr el us} hrun hr hus hl => by
    unfold Oper.wp
    rw [hrun, Oper.upon_value]
    obtain ⟨g', h1, h2, h3, h4, h5⟩ := fill_obj (w' := { w with heap := w.heap.push (.cells carr el) }) h.inv rfl rfl rfl rfl hk hm hr hus hl (.inl rfl)
    have htm : RVs g' H tm a.tmps.toList := by have := RVs.ren h2 h.tm; rwa [PV.rens_some] at this
    have hp : RV g' H (.ptr k 0) (.pointer (some ⟨w.heap.size, 0, none⟩)) := by simp only [RV]; exact ⟨hkl, _, _, _, h4, rfl⟩
    refine hK _ _ g' ?_ h3 h5
    rw [hd]
    cases hdst : o.dst with
    | none => exact ⟨htm, h1, h.defers⟩
    | some d =>
      refine ⟨?_, h1, h.defers⟩
      simp only [putP, Act.put, Array.toList_setIfInBounds]
      exact htm.set d hp
  rcases hop with hop | ⟨x, hop, hcs⟩
  · rw [hop] at hcop
    obtain ⟨T, ti, z, h1, h2, h3, rfl⟩ := comp_alloc hcop.symm
    obtain ⟨dst, op, type, pos, after, guard⟩ := o
    simp only at h1
    subst h1
    refine fin (carr := z.cells) (el := T) (us := z.cells.toList) ?_ (RVs.of_RCs (RCs_map z.cells.toList)) (fun i v h => by simpa using h) (by simp)
    exact run_v_ok (by simp [Instr.alloc, run_zero (w := w) h2 h3, newVar, newRow])
  · rw [hop] at hcop
    obtain ⟨T, y, h1, rfl⟩ := comp_box hcop.symm
    obtain ⟨dst, op, type, pos, after, guard⟩ := o
    simp only at h1
    subst h1
    obtain ⟨h0, _⟩ := cells_ok hcs (cx_ev h.tm (a := a) y)
    refine fin (carr := (a.eval y).cells) (el := T) (us := (a.eval y).cells.toList) ?_ h0 (fun i v h => by simpa using h) (by simp)
    exact run_v_ok (by simp [Instr.box, newVar, newRow])
end
end Go.Proofs.YtnljpfjoboafoaaDoor.Ev
