/- Calls: what a callee leaves is what its caller knows. -/
import Derived.Test.YtnljpfjoboafoaaDoorEv12
namespace Go.Proofs.YtnljpfjoboafoaaDoor.Ev
set_option linter.all false
open Go Go.RowKit

def Enters (P : Program) (f : FuncId) : Prop := ∃ fn, P.funcs[f]? = some fn ∧ (fn.name == "runtime.NumGoroutine") = false ∧ fn.body.isNone = false
/-- What is told of calls holds. -/
def CallOk (P : Program) (call : Nat → List PV → Hp → Option (PV × Hp)) : Prop :=
  ∀ f args H r H', call f args H = some (r, H') → Enters P f ∧ ∀ g w vs, Inv g H w → RVs g H args vs →
    Calls P f ⟨vs⟩ w fun e w' => ∃ v g', e = .returned v ∧ Inv g' H' w' ∧ RV g' H' r v ∧ Ext g H w g' H' w'

section
variable {P : Program} {g : Gh} {H : Hp} {w : World}

theorem run_callFunc {f : FuncId} (h : Enters P f) (args : Array Value) : (callFunc f args).run P w = .ok (.enter f args) w := by
  obtain ⟨fn, h1, h2, h3⟩ := h
  simp only [callFunc, Sem.run_bind, run_program, Result.andThen_ok, h1]
  rw [if_neg (by simp [h2]), if_neg (by simp [h3])]
  rfl

/-- The world as a callee sees it that is handed no entry. -/
theorem Inv.bare (hI : Inv g H w) : Inv ⟨g.σ, fun _ => none⟩ [] w :=
  ⟨hI.σw, hI.one, hI.z, fun _ _ _ _ _ h => (by cases h), fun _ _ _ _ _ _ h => (by cases h), fun _ _ _ _ _ _ _ _ _ h => (by cases h), fun b hb => let ⟨cs, el, fr, h1, h2, _⟩ := hI.c b hb; ⟨cs, el, fr, h1, h2, fun ⟨_, _, _, _, hm⟩ => by cases hm⟩⟩
theorem not_owned_bare (σ : Sg) (b : Nat) : ¬ Owned ⟨σ, fun _ => none⟩ [] b := fun ⟨_, _, _, _, h⟩ => by cases h
theorem RVs.bare {ps : List PV} {vs : List Value} (h : RVs g H ps vs) : RVs ⟨g.σ, fun _ => none⟩ [] (PV.rens (fun _ => none) ps) vs :=
  RVs.ren (ρ := fun _ => none) (g := g) (g' := ⟨g.σ, fun _ => none⟩) (H := H) (H' := []) ⟨fun _ _ _ h => h, fun _ _ h => (by cases h), fun _ _ _ h => (by cases h), fun _ _ h => (by cases h)⟩ h

def muApp (μ μ' : Nat → Option (Nat × Nat × Nat)) (n : Nat) : Nat → Option (Nat × Nat × Nat) := fun i => if i < n then μ i else μ' (i - n)

theorem get_toks {n : Nat} {H1 : Hp} {i : Nat} (h : (shift n H1)[i]? = some .tok) : H1[i]? = some .tok := by
  simp only [shift, List.getElem?_map, Option.map_eq_some_iff] at h
  obtain ⟨o, h1, h2⟩ := h
  cases o <;> simp at h2
  exact h1
theorem get_shift {n : Nat} {H1 : Hp} {i : Nat} {cs : List PV} (h : (shift n H1)[i]? = some (.cells cs)) : ∃ ds, H1[i]? = some (.cells ds) ∧ cs = PV.rens (fun j => some (n + j)) ds := by
  simp only [shift, List.getElem?_map, Option.map_eq_some_iff] at h
  obtain ⟨o, h1, h2⟩ := h
  cases o <;> simp at h2
  exact ⟨_, h1, h2.symm⟩
theorem alive_toks {n : Nat} {H1 : Hp} {i : Nat} (h : Alive (shift n H1) i) : Alive H1 i := h.elim (fun h => .inl (get_toks h)) (fun ⟨_, h⟩ => let ⟨ds, h1, _⟩ := get_shift h; .inr ⟨ds, h1⟩)
theorem len_toks (n : Nat) (H1 : Hp) : (shift n H1).length = H1.length := by simp [shift]
theorem alive_append {H H1 : Hp} {id : Nat} (h : Alive (H ++ H1) id) : (id < H.length ∧ Alive H id) ∨ (H.length ≤ id ∧ Alive H1 (id - H.length)) := by
  rcases Nat.lt_or_ge id H.length with hl | hl
  · refine .inl ⟨hl, ?_⟩
    unfold Alive at h ⊢
    rwa [List.getElem?_append_left hl] at h
  · refine .inr ⟨hl, ?_⟩
    unfold Alive at h ⊢
    rwa [List.getElem?_append_right hl] at h

/-- Behind a call that was handed no entry: the caller knows what it knew, and what the callee leaves. -/
theorem after_bare (hI : Inv g H w) {g1 : Gh} {H1 : Hp} {w1 : World} (h1 : Inv g1 H1 w1) (hE : Ext ⟨g.σ, fun _ => none⟩ [] w g1 H1 w1) :
    ∃ g2, Inv g2 (H ++ shift H.length H1) w1 ∧ Ext g H w g2 (H ++ shift H.length H1) w1 ∧ RenOk (fun j => some (H.length + j)) g1 H1 g2 (H ++ shift H.length H1) := by
  have hfr : ∀ k, k < w.heap.size → w1.heap[k]? = w.heap[k]? := fun k hk => hE.frame k hk (not_owned_bare _ _)
  have hσ : ∀ k o, k < w.heap.size → g1.σ k o = g.σ k o := fun k o hk => hE.σf k o hk (not_owned_bare _ _)
  have hnew : ∀ k, Owned g1 H1 k → w.heap.size ≤ k := fun k hk => (hE.own k hk).resolve_left (not_owned_bare _ _)
  have mu_old : ∀ {id x}, id < H.length → muApp g.μ g1.μ H.length id = x → g.μ id = x := fun {id x} hl h => by rw [← h]; exact (if_pos hl).symm
  have mu_new : ∀ {id x}, H.length ≤ id → muApp g.μ g1.μ H.length id = x → g1.μ (id - H.length) = x := fun {id x} hl h => by rw [← h]; exact (if_neg (by omega)).symm
  have hren : RenOk (fun j => some (H.length + j)) g1 H1 ⟨g1.σ, muApp g.μ g1.μ H.length⟩ (H ++ shift H.length H1) := by
    refine ⟨fun _ _ _ h => h, fun k k' e hk => by cases e; simp [len_toks]; omega, fun k k' x e hk hx => ?_, fun k k' e hk ht => ?_⟩
    · cases e
      show muApp g.μ g1.μ H.length (H.length + k) = some x
      unfold muApp
      rw [if_neg (by omega), show H.length + k - H.length = k by omega]
      exact hx
    · cases e
      rw [List.getElem?_append_right (by omega), show H.length + k - H.length = k by omega] at ht
      refine ⟨get_toks ht, ?_⟩
      show muApp g.μ g1.μ H.length (H.length + k) = _
      unfold muApp
      rw [if_neg (by omega), show H.length + k - H.length = k by omega]
  have hExt : Ext g H w ⟨g1.σ, muApp g.μ g1.μ H.length⟩ (H ++ shift H.length H1) w1 := by
    refine ⟨hE.σ, fun id hid => if_pos hid, by simp, fun k hk ht => ?_, hE.os, hE.tape, hE.output, hE.size, fun k hk _ => hfr k hk, fun k o hk _ => hσ k o hk, fun k ⟨id, e, top, ha, hm⟩ => ?_⟩
    · rw [List.getElem?_append_left hk] at ht
      exact ⟨ht, if_pos hk⟩
    · rcases alive_append ha with ⟨hl, ha'⟩ | ⟨hl, ha'⟩
      · exact .inl ⟨id, e, top, ha', mu_old hl hm⟩
      · exact .inr (hnew k ⟨id - H.length, e, top, alive_toks ha', mu_new hl hm⟩)
  refine ⟨⟨g1.σ, muApp g.μ g1.μ H.length⟩, ⟨h1.σw, h1.one, h1.z, fun id b e top ha hm => ?_, fun id cs b e top hc hm => ?_, fun id id' b e top e' top' ha ha' hm hm' => ?_, hI.c.ext hExt⟩, hExt, hren⟩
  · rcases alive_append ha with ⟨hl, ha'⟩ | ⟨hl, ha'⟩
    · have hm' := mu_old hl hm
      have hb := hI.lt ha' hm'
      obtain ⟨carr, el, fr, h3, h4, h5, h6, h7⟩ := hI.blk id b e top ha' hm'
      exact ⟨carr, el, fr, by rw [hfr b hb]; exact h3, h4, h5, h6, fun o ho => by show g1.σ b o = none; rw [hσ b o hb]; exact h7 o ho⟩
    · exact h1.blk _ b e top (alive_toks ha') (mu_new hl hm)
  · rcases Nat.lt_or_ge id H.length with hl | hl
    · rw [List.getElem?_append_left hl] at hc
      have hm' := mu_old hl hm
      have hb := hI.lt (.inr ⟨cs, hc⟩) hm'
      obtain ⟨h4, us, h5, h6⟩ := hI.obj id cs b e top hc hm'
      exact ⟨h4, us, h5.ext hExt, fun i v hv => by rw [World.cell?_of_block (w := w) (hfr b hb)]; exact h6 i v hv⟩
    · rw [List.getElem?_append_right hl] at hc
      obtain ⟨ds, h3, rfl⟩ := get_shift hc
      obtain ⟨h4, us, h5, h6⟩ := h1.obj _ ds b e top h3 (mu_new hl hm)
      exact ⟨by rw [PV.rens_eq, List.length_map]; exact h4, us, RVs.ren hren h5, h6⟩
  · rcases alive_append ha with ⟨hl, ha1⟩ | ⟨hl, ha1⟩ <;> rcases alive_append ha' with ⟨hl', ha2⟩ | ⟨hl', ha2⟩
    · exact hI.dist id id' b e top e' top' ha1 ha2 (mu_old hl hm) (mu_old hl' hm')
    · have h3 := hI.lt ha1 (mu_old hl hm)
      have h4 := hnew b ⟨_, e', top', alive_toks ha2, mu_new hl' hm'⟩
      omega
    · have h3 := hI.lt ha2 (mu_old hl' hm')
      have h4 := hnew b ⟨_, e, top, alive_toks ha1, mu_new hl hm⟩
      omega
    · have := h1.dist _ _ b e top e' top' (alive_toks ha1) (alive_toks ha2) (mu_new hl hm) (mu_new hl' hm')
      omega
/-- The same where what the callee leaves is not kept. -/
theorem after_none (hI : Inv g H w) {g1 : Gh} {H1 : Hp} {w1 : World} (h1 : Inv g1 H1 w1) (hE : Ext ⟨g.σ, fun _ => none⟩ [] w g1 H1 w1) :
    ∃ g2, Inv g2 H w1 ∧ Ext g H w g2 H w1 ∧ RenOk (fun _ => none) g1 H1 g2 H := by
  have hfr : ∀ k, k < w.heap.size → w1.heap[k]? = w.heap[k]? := fun k hk => hE.frame k hk (not_owned_bare _ _)
  have hσ : ∀ k o, k < w.heap.size → g1.σ k o = g.σ k o := fun k o hk => hE.σf k o hk (not_owned_bare _ _)
  have hExt : Ext g H w ⟨g1.σ, g.μ⟩ H w1 :=
    ⟨hE.σ, fun _ _ => rfl, Nat.le_refl _, fun _ _ h => ⟨h, rfl⟩, hE.os, hE.tape, hE.output, hE.size, fun k hk _ => hfr k hk, fun k o hk _ => hσ k o hk, fun k ⟨id, e, top, ha, hm⟩ => .inl ⟨id, e, top, ha, hm⟩⟩
  refine ⟨⟨g1.σ, g.μ⟩, ⟨h1.σw, h1.one, h1.z, fun id b e top ha hm => ?_, fun id cs b e top hc hm => ?_, hI.dist, hI.c.ext hExt⟩, hExt, ⟨fun _ _ _ h => h, fun _ _ h => (by cases h), fun _ _ _ h => (by cases h), fun _ _ h => (by cases h)⟩⟩
  · have hb := hI.lt ha hm
    obtain ⟨carr, el, fr, h3, h4, h5, h6, h7⟩ := hI.blk id b e top ha hm
    exact ⟨carr, el, fr, by rw [hfr b hb]; exact h3, h4, h5, h6, fun o ho => by show g1.σ b o = none; rw [hσ b o hb]; exact h7 o ho⟩
  · have hb := hI.lt (.inr ⟨cs, hc⟩) hm
    obtain ⟨h4, us, h5, h6⟩ := hI.obj id cs b e top hc hm
    exact ⟨h4, us, h5.ext hExt, fun i v hv => by rw [World.cell?_of_block (w := w) (hfr b hb)]; exact h6 i v hv⟩
/-! ### Rows lent -/
/-- Whatever lies in the world, as one who is handed no entry may take it. -/
def allSg (w : World) : Sg := fun b o => match w.cell? ⟨b, o, none⟩ with | some v => if v.oneCell' = true then some v else none | none => none
theorem allSg_le (hI : Inv g H w) : g.σ.le (allSg w) := fun b o v h => by
  have h1 := hI.σw b o v h
  have h2 := hI.one b o v h
  simp only [allSg, h1, h2, if_true]
theorem allSg_spec {b o : Nat} {v : Value} (h : allSg w b o = some v) : w.cell? ⟨b, o, none⟩ = some v ∧ v.oneCell' = true := by
  unfold allSg at h
  split at h
  · rename_i u hu
    split at h
    · rename_i h1; cases h; exact ⟨hu, h1⟩
    · cases h
  · cases h
theorem Inv.all (hI : Inv g H w) : Inv ⟨allSg w, fun _ => none⟩ [] w :=
  ⟨fun b o v h => (allSg_spec h).1, fun b o v h => (allSg_spec h).2, hI.z.mono (allSg_le hI), fun _ _ _ _ _ h => (by cases h), fun _ _ _ _ _ _ h => (by cases h), fun _ _ _ _ _ _ _ _ _ h => (by cases h), fun b hb => let ⟨cs, el, fr, h1, h2, _⟩ := hI.c b hb; ⟨cs, el, fr, h1, h2, fun ⟨_, _, _, _, hm⟩ => by cases hm⟩⟩
theorem one_of_RC {σ : Sg} {p : PV} {v : Value} (h1 : p.one = true) (h : RC σ p v) : v.oneCell' = true := one_ok (g := ⟨σ, fun _ => none⟩) (H := []) h1 (RV.of_RC h)
theorem RCs.one {σ : Sg} : ∀ {ps : List PV} {vs : List Value}, ps.all PV.one = true → RCs σ ps vs → ∀ v ∈ vs, v.oneCell' = true
  | [], vs, _, h, v, hv => by simp only [RCs] at h; subst h; cases hv
  | p :: ps, vs, h1, h, v, hv => by
    simp only [RCs] at h
    obtain ⟨u, r, rfl, h2, h3⟩ := h
    simp only [List.all_cons, Bool.and_eq_true] at h1
    rcases List.mem_cons.1 hv with rfl | hv
    · exact one_of_RC h1.1 h2
    · exact RCs.one h1.2 h3 v hv
theorem RV.lend (hI : Inv g H w) {p q : PV} {v : Value} (hq : p.lend H = some q) (h : RV g H p v) : RV ⟨allSg w, fun _ => none⟩ [] q v := by
  have other : some (p.ren fun _ => none) = some q → RV ⟨allSg w, fun _ => none⟩ [] q v := fun e => by
    cases e
    exact RV.ren (ρ := fun _ => none) (g := g) (g' := ⟨allSg w, fun _ => none⟩) (H := H) (H' := []) ⟨allSg_le hI, fun _ _ h => (by cases h), fun _ _ _ h => (by cases h), fun _ _ h => (by cases h)⟩ h
  cases p
  case row id off sz n =>
    simp only [PV.lend] at hq
    split at hq
    · rename_i cs hcs
      split at hq
      · rename_i hl
        split at hq
        · rename_i ds hds
          split at hq
          · rename_i hone
            cases hq
            simp only [RV] at h
            obtain ⟨_, b, e, top, cap, hm, rfl, hc, _⟩ := h
            obtain ⟨_, us, h5, h6⟩ := hI.obj id cs b e top hcs hm
            have hr := PV.cleans_RCs hds ((h5.drop off).take (n * sz))
            have hlen : ds.length = n * sz := by
              rw [hr.length, List.length_take, List.length_drop, ← h5.length]; omega
            simp only [RV, RC]
            refine ⟨fun _ h => (by cases h), _, cap, rfl, hc, fun h => (by cases h), hlen, fun _ => ⟨b, e + off, _, rfl, fun i u hu => ?_, hr.mono (allSg_le hI)⟩⟩
            have hu1 := RCs.one hone hr u (List.mem_of_getElem? hu)
            have hcell : w.cell? ⟨b, e + off + i, none⟩ = some u := by
              rw [List.getElem?_take] at hu
              split at hu
              · rw [List.getElem?_drop] at hu
                have := h6 _ u hu
                rwa [Nat.add_assoc]
              · cases hu
            show allSg w b (e + off + i) = some u
            simp only [allSg, hcell, hu1, if_true]
          · cases hq
        · cases hq
      · cases hq
    · cases hq
  all_goals exact other hq
theorem RVs.lend (hI : Inv g H w) : ∀ {ps qs : List PV} {vs : List Value}, lendL H ps = some qs → RVs g H ps vs → RVs ⟨allSg w, fun _ => none⟩ [] qs vs
  | [], qs, vs, h, hr => by simp only [lendL, Option.some.injEq] at h; subst h; simpa only [RVs] using hr
  | p :: ps, qs, vs, h, hr => by
    simp only [lendL] at h
    split at h
    · rename_i q qs' h1 h2
      cases h
      simp only [RVs] at hr ⊢
      obtain ⟨v, r, rfl, h3, h4⟩ := hr
      exact ⟨v, r, rfl, RV.lend hI h1 h3, RVs.lend hI h2 h4⟩
    · cases h
theorem RV.scal0 {g g' : Gh} {H H' : Hp} {p : PV} {v : Value} (hs : p.scal0 = true) (h : RV g H p v) : RV g' H' p v := by
  cases p <;> simp only [PV.scal0, Bool.false_eq_true] at hs <;> simpa only [RV] using h
theorem RVs.scal0 {g g' : Gh} {H H' : Hp} : ∀ {ps : List PV} {vs : List Value}, ps.all PV.scal0 = true → RVs g H ps vs → RVs g' H' ps vs
  | [], vs, _, h => by simpa only [RVs] using h
  | p :: ps, vs, hs, h => by
    simp only [List.all_cons, Bool.and_eq_true] at hs
    simp only [RVs] at h ⊢
    obtain ⟨v, r, rfl, h1, h2⟩ := h
    exact ⟨v, r, rfl, RV.scal0 hs.1 h1, RVs.scal0 hs.2 h2⟩
theorem RV.scal {g g' : Gh} {H H' : Hp} {p : PV} {v : Value} (hs : p.scal = true) (h : RV g H p v) : RV g' H' p v := by
  cases p
  case tup vs =>
    simp only [PV.scal] at hs
    simp only [RV] at h ⊢
    obtain ⟨us, h1, h2⟩ := h
    exact ⟨us, h1, RVs.scal0 hs h2⟩
  all_goals exact RV.scal0 hs h
/-- Behind a call to which rows were lent. -/
theorem after_lend (hI : Inv g H w) {g1 : Gh} {H1 : Hp} {w1 : World} (hE : Ext ⟨allSg w, fun _ => none⟩ [] w g1 H1 w1) : Inv g H w1 ∧ Ext g H w g H w1 := by
  have hfr : ∀ k, k < w.heap.size → w1.heap[k]? = w.heap[k]? := fun k hk => hE.frame k hk (not_owned_bare _ _)
  have hExt : Ext g H w g H w1 :=
    ⟨fun _ _ _ h => h, fun _ _ => rfl, Nat.le_refl _, fun _ _ h => ⟨h, rfl⟩, hE.os, hE.tape, hE.output, hE.size, fun k hk _ => hfr k hk, fun _ _ _ _ => rfl, fun k h => .inl h⟩
  refine ⟨⟨fun b o v h => ?_, hI.one, hI.z, fun id b e top ha hm => ?_, fun id cs b e top hc hm => ?_, hI.dist, hI.c.ext hExt⟩, hExt⟩
  · have h1 := hI.σw b o v h
    rw [World.cell?_of_block (w := w) (hfr b (cell_block_lt h1))]
    exact h1
  · have hb := hI.lt ha hm
    obtain ⟨carr, el, fr, h3, h4, h5, h6, h7⟩ := hI.blk id b e top ha hm
    exact ⟨carr, el, fr, by rw [hfr b hb]; exact h3, h4, h5, h6, h7⟩
  · have hb := hI.lt (.inr ⟨cs, hc⟩) hm
    obtain ⟨h4, us, h5, h6⟩ := hI.obj id cs b e top hc hm
    exact ⟨h4, us, h5, fun i v hv => by rw [World.cell?_of_block (w := w) (hfr b hb)]; exact h6 i v hv⟩
end
end Go.Proofs.YtnljpfjoboafoaaDoor.Ev
