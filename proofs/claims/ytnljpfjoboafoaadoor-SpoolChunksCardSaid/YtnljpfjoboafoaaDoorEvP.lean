/- Rows that are written no more: told for good. -/
import Derived.Test.YtnljpfjoboafoaaDoorEv21
namespace Go.Proofs.YtnljpfjoboafoaaDoor.Ev
set_option linter.all false
open Go Go.RowKit

def pubLw (F : PV → Hp → Option (PV × Hp)) : List PV → Hp → Option (List PV × Hp)
  | [], H => some ([], H)
  | p :: r, H => match F p H with
    | some (q, H') => (match pubLw F r H' with | some (qs, H'') => some (q :: qs, H'') | none => none)
    | none => none
def pubV : Nat → PV → Hp → Option (PV × Hp)
  | 0, _, _ => none
  | f + 1, .row id off sz n, H => match H[id]? with
    | some (.cells cs) => (match pubLw (pubV f) cs (H.set id .dead) with
      | some (ds, H') => (match PV.cleans ds with
        | some es => if es.all PV.one = true ∧ off + n * sz ≤ es.length then some (.sl .no sz n ((es.drop off).take (n * sz)), H') else none
        | none => none)
      | none => none)
    | _ => none
  | f + 1, .agg cs, H => match pubLw (pubV f) cs H with | some (ds, H') => some (.agg ds, H') | none => none
  | f + 1, .tup cs, H => match pubLw (pubV f) cs H with | some (ds, H') => some (.tup ds, H') | none => none
  | _ + 1, p, H => some (p, H)

structure PExt (g : Gh) (H : Hp) (g' : Gh) (H' : Hp) : Prop where
  σ : g.σ.le g'.σ
  μ : ∀ id, g'.μ id = g.μ id
  len : H'.length = H.length
  ent : ∀ id : Nat, H'[id]? = H[id]? ∨ H'[id]? = some Ob.dead
  σf : ∀ b, ¬ Owned g H b → ∀ o, g'.σ b o = g.σ b o
theorem PExt.alive {g g' : Gh} {H H' : Hp} (h : PExt g H g' H') {id : Nat} (ha : Alive H' id) : Alive H id := by
  rcases h.ent id with e | e
  · unfold Alive at ha ⊢; rwa [e] at ha
  · rcases ha with ha | ⟨cs, ha⟩ <;> rw [e] at ha <;> cases ha
theorem PExt.owned {g g' : Gh} {H H' : Hp} (h : PExt g H g' H') {b : Nat} (ho : Owned g' H' b) : Owned g H b := by
  obtain ⟨id, e, top, ha, hm⟩ := ho
  exact ⟨id, e, top, h.alive ha, by rw [← h.μ]; exact hm⟩
theorem PExt.refl (g : Gh) (H : Hp) : PExt g H g H := ⟨fun _ _ _ h => h, fun _ => rfl, rfl, fun _ => .inl rfl, fun _ _ _ => rfl⟩
theorem PExt.trans {g g' g'' : Gh} {H H' H'' : Hp} (h : PExt g H g' H') (k : PExt g' H' g'' H'') : PExt g H g'' H'' :=
  ⟨fun b o v e => k.σ _ _ _ (h.σ _ _ _ e), fun id => (k.μ id).trans (h.μ id), k.len.trans h.len, fun id => by
    rcases k.ent id with e | e
    · rw [e]; exact h.ent id
    · exact .inr e, fun b hb o => (k.σf b (fun hc => hb (h.owned hc)) o).trans (h.σf b hb o)⟩
theorem PExt.ext {g g' : Gh} {H H' : Hp} (h : PExt g H g' H') (w : World) : Ext g H w g' H' w :=
  ⟨h.σ, fun id _ => h.μ id, by rw [h.len]; exact Nat.le_refl _, fun k hk ht => (h.ent k).elim (fun e => ⟨e ▸ ht, h.μ k⟩) (fun e => (by rw [e] at ht; cases ht)), rfl, rfl, rfl, Nat.le_refl _, fun _ _ _ => rfl, fun k o _ hk => h.σf k hk o, fun k hk => .inl (h.owned hk)⟩
theorem PExt.kill (g : Gh) (H : Hp) (k : Nat) : PExt g H g (H.set k .dead) :=
  ⟨fun _ _ _ h => h, fun _ => rfl, by simp, fun id => by
    rw [get_set_dead]
    split
    · exact .inr rfl
    · exact .inl rfl, fun _ _ _ => rfl⟩

def PubOk (F : PV → Hp → Option (PV × Hp)) : Prop := ∀ p H p' H', F p H = some (p', H') → ∀ g w v, Inv g H w → RV g H p v → ∃ g', Inv g' H' w ∧ RV g' H' p' v ∧ PExt g H g' H'
theorem pubLw_ok {F : PV → Hp → Option (PV × Hp)} (hF : PubOk F) : ∀ (l : List PV) (H : Hp) (l' : List PV) (H' : Hp), pubLw F l H = some (l', H') → ∀ g w vs, Inv g H w → RVs g H l vs → ∃ g', Inv g' H' w ∧ RVs g' H' l' vs ∧ PExt g H g' H'
  | [], H, l', H', h => fun g w vs hI hr => by
    simp only [pubLw, Option.some.injEq, Prod.mk.injEq] at h
    obtain ⟨rfl, rfl⟩ := h
    exact ⟨g, hI, hr, PExt.refl g H⟩
  | p :: r, H, l', H', h => fun g w vs hI hr => by
    simp only [pubLw] at h
    split at h
    · rename_i q H1 h1
      split at h
      · rename_i qs H2 h2
        cases h
        simp only [RVs] at hr
        obtain ⟨v, us, rfl, h3, h4⟩ := hr
        obtain ⟨g1, h5, h6, h7⟩ := hF p H q H1 h1 g w v hI h3
        obtain ⟨g2, h8, h9, h10⟩ := pubLw_ok hF r H1 qs H' h2 g1 w us h5 (h4.ext (h7.ext w))
        exact ⟨g2, h8, by simp only [RVs]; exact ⟨v, us, rfl, h6.ext (h10.ext w), h9⟩, h7.trans h10⟩
      · cases h
    · cases h
theorem cleans_len : ∀ {ps qs : List PV}, PV.cleans ps = some qs → qs.length = ps.length
  | [], qs, h => by simp only [PV.cleans, Option.some.injEq] at h; subst h; rfl
  | p :: ps, qs, h => by
    simp only [PV.cleans] at h
    split at h
    · rename_i q qs' h1 h2
      cases h
      simp [cleans_len h2]
    · cases h
theorem pubV_ok : ∀ f, PubOk (pubV f)
  | 0 => fun p H p' H' h => by simp [pubV] at h
  | f + 1 => fun p H p' H' h g w v hI hr => by
    cases p
    case row id off sz n =>
      simp only [pubV] at h
      split at h
      · rename_i cs hk
        split at h
        · rename_i ds H1 h1
          split at h
          · rename_i es hes
            split at h
            · rename_i hc
              cases h
              simp only [RV] at hr
              obtain ⟨hid, b, e, top, cap, hm, rfl, hncap, hcap⟩ := hr
              have ha : Alive H id := .inr ⟨cs, hk⟩
              obtain ⟨carr, el, fr, hb, _, _, _, hs⟩ := hI.blk id b e top ha hm
              obtain ⟨hlt, us, hus, hcell⟩ := hI.obj id cs b e top hk hm
              obtain ⟨g2, h2, h3, h4⟩ := pubLw_ok (pubV_ok f) cs (H.set id .dead) ds H' h1 g w us (hI.kill id) (hus.ext (Ext.kill g H w id))
              have hnot : ∀ id' b' e' top', Alive H' id' → g2.μ id' = some (b', e', top') → b' ≠ b := fun id' b' e' top' ha' hm' heq => by
                subst heq
                obtain ⟨h5, hne⟩ := alive_kill (h4.alive ha')
                rw [h4.μ] at hm'
                exact hne (hI.dist id' id b' e' top' e top h5 ha hm' hm)
              have hnone : ∀ o, e ≤ o → g2.σ b o = none := fun o ho => by
                rw [h4.σf b (fun ⟨id', e', top', ha', hm'⟩ => by
                  obtain ⟨h5, hne⟩ := alive_kill ha'
                  exact hne (hI.dist id' id b e' top' e top h5 ha hm' hm)) o]
                exact hs o ho
              have hrc := PV.cleans_RCs hes h3
              have hle : g2.σ.le (g2.σ.put b e us) := Sg.put_le (fun i _ => hnone (e + i) (by omega))
              have hul := h3.length
              have hel := hrc.length
              have hP := (PExt.kill g H id).trans h4
              have hren : RenOk some g2 H' ⟨g2.σ.put b e us, g2.μ⟩ H' := ⟨hle, fun i i' e hi => by cases e; exact hi, fun i i' x e hi hx => by cases e; exact hx, fun i i' e hi ht => by cases e; exact ⟨ht, rfl⟩⟩
              refine ⟨⟨g2.σ.put b e us, g2.μ⟩, ⟨fun b' o u hu => ?_, Sg.put_one h2.one (ones_okC hc.1 hrc), h2.z.mono hle, fun id' b' e' top' ha' hm' => ?_, fun id' cs' b' e' top' hc' hm' => ?_, h2.dist, h2.c⟩, ?_, ⟨fun b' o u hu => hle _ _ _ (hP.σ _ _ _ hu), hP.μ, hP.len, hP.ent, fun b' hb' o => (Sg.put_ne o (fun heq => hb' ⟨id, e, top, ha, by rw [heq]; exact hm⟩)).trans (hP.σf b' hb' o)⟩⟩
              · have hu' : Sg.put g2.σ b e us b' o = some u := hu
                unfold Sg.put at hu'
                by_cases hbb : b' = b ∧ e ≤ o ∧ o < e + us.length
                · rw [if_pos hbb] at hu'
                  obtain ⟨rfl, h5, h6⟩ := hbb
                  have := hcell _ _ hu'
                  rwa [show e + (o - e) = o by omega] at this
                · rw [if_neg hbb] at hu'
                  exact h2.σw b' o u hu'
              · obtain ⟨c2, el2, fr2, h5, h6, h7, h8, h9⟩ := h2.blk id' b' e' top' ha' hm'
                exact ⟨c2, el2, fr2, h5, h6, h7, h8, fun o ho => by
                  show Sg.put g2.σ b e us b' o = none
                  rw [Sg.put_ne o (hnot id' b' e' top' ha' hm')]; exact h9 o ho⟩
              · obtain ⟨h5, us', h6, h7⟩ := h2.obj id' cs' b' e' top' hc' hm'
                refine ⟨h5, us', ?_, h7⟩
                have := RVs.ren hren h6
                rwa [PV.rens_some] at this
              · simp only [RV, RC]
                refine ⟨fun k h => (by cases h), _, cap, rfl, hncap, fun h => (by cases h), by simp; omega, fun _ => ⟨b, e + off, (us.drop off).take (n * sz), rfl, ((Sg.put_holds g2.σ b e us).drop off).take _, ((hrc.mono hle).drop off).take _⟩⟩
            · cases h
          · cases h
        · cases h
      · cases h
    case agg cs =>
      simp only [pubV] at h
      split at h
      · rename_i ds H1 h1
        cases h
        simp only [RV] at hr
        obtain ⟨vs, rfl, h2⟩ := hr
        obtain ⟨g', h3, h4, h5⟩ := pubLw_ok (pubV_ok f) cs H ds H' h1 g w vs hI h2
        exact ⟨g', h3, by simp only [RV]; exact ⟨vs, rfl, h4⟩, h5⟩
      · cases h
    case tup cs =>
      simp only [pubV] at h
      split at h
      · rename_i ds H1 h1
        cases h
        simp only [RV] at hr
        obtain ⟨vs, rfl, h2⟩ := hr
        obtain ⟨g', h3, h4, h5⟩ := pubLw_ok (pubV_ok f) cs H ds H' h1 g w vs hI h2
        exact ⟨g', h3, by simp only [RV]; exact ⟨vs, rfl, h4⟩, h5⟩
      · cases h
    all_goals
      simp only [pubV, Option.some.injEq, Prod.mk.injEq] at h
      obtain ⟨rfl, rfl⟩ := h
      exact ⟨g, hI, hr, PExt.refl g H⟩
end Go.Proofs.YtnljpfjoboafoaaDoor.Ev
