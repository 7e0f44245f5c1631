/- Code: what the evaluator tells of a body, and that it is so. -/
import Derived.Test.YtnljpfjoboafoaaDoorEv20
import Derived.LoopN
namespace Go.Proofs.YtnljpfjoboafoaaDoor.Ev
set_option linter.all false
open Go Go.RowKit

/-- A nil slice gets a right of its own. -/
def nilTs : List PV → Hp → List PV × Hp
  | [], H => ([], H)
  | .sl .nil sz n cs :: r, H => (.sl (.tok H.length) sz n cs :: (nilTs r (H ++ [.tok])).1, (nilTs r (H ++ [.tok])).2)
  | p :: r, H => (p :: (nilTs r H).1, (nilTs r H).2)
def nilObs : Nat → Hp → Hp
  | 0, H => H
  | n + 1, H => match (nilObs n H)[n]? with
    | some (.cells cs) => (nilTs cs (nilObs n H)).2.set n (.cells (nilTs cs (nilObs n H)).1)
    | _ => nilObs n H
def maskT (live : List Nat) : Nat → List PV → List PV
  | _, [] => []
  | i, p :: r => (if live.contains i then p else .bot) :: maskT live (i + 1) r
/-- The state at a loop's head. -/
def head (n : Nat) (live : List Nat) (tm : List PV) (H : Hp) : List PV × Hp :=
  compact n (nilTs (maskT live 0 tm) H).1 (nilObs n (nilTs (maskT live 0 tm) H).2)

section
variable {P : Program} {g : Gh} {H : Hp} {w : World}

theorem nilTs_ok : ∀ (ps : List PV) {H : Hp} {g : Gh}, Inv g H w → ∃ g', Inv g' (nilTs ps H).2 w ∧ Ext g H w g' (nilTs ps H).2 w ∧ (∀ vs, RVs g H ps vs → RVs g' (nilTs ps H).2 (nilTs ps H).1 vs) ∧ ∀ id, id < H.length → g'.μ id = g.μ id
  | [], H, g, hI => ⟨g, hI, Ext.refl g H w, fun vs h => by simpa only [nilTs, RVs] using h, fun _ _ => rfl⟩
  | p :: r, H, g, hI => by
    have other : (nilTs (p :: r) H) = (p :: (nilTs r H).1, (nilTs r H).2) → ∃ g', Inv g' (nilTs (p :: r) H).2 w ∧ Ext g H w g' (nilTs (p :: r) H).2 w ∧ (∀ vs, RVs g H (p :: r) vs → RVs g' (nilTs (p :: r) H).2 (nilTs (p :: r) H).1 vs) ∧ ∀ id, id < H.length → g'.μ id = g.μ id := fun e => by
      obtain ⟨g', h1, h2, h3, h3'⟩ := nilTs_ok r hI
      rw [e]
      refine ⟨g', h1, h2, fun vs h => ?_, h3'⟩
      simp only [RVs] at h ⊢
      obtain ⟨v, us, rfl, h4, h5⟩ := h
      exact ⟨v, us, rfl, h4.ext h2, h3 us h5⟩
    cases p with
    | sl t sz n cs =>
      cases t with
      | nil =>
        obtain ⟨g1, h1, h2, h3, h3'⟩ := add_nil hI
        obtain ⟨g', h4, h5, h6, h6'⟩ := nilTs_ok r h1
        refine ⟨g', h4, h2.trans h5, fun vs h => ?_, fun id hid => (h6' id (by simp; omega)).trans (h3' id hid)⟩
        simp only [nilTs, RVs] at h ⊢
        obtain ⟨v, us, rfl, h7, h8⟩ := h
        refine ⟨v, us, rfl, RV.ext h5 ?_, h6 us (h8.ext h2)⟩
        simp only [RV, RC] at h7 ⊢
        obtain ⟨_, a, cap, rfl, h9, h10, h11, h12⟩ := h7
        obtain ⟨rfl, rfl, rfl⟩ := h10 trivial
        refine ⟨by simp, ⟨fun k h => (by cases h), none, 0, rfl, Nat.le_refl _, fun h => (by cases h), h11, fun h => absurd h (Nat.lt_irrefl 0)⟩, fun _ => ?_⟩
        unfold OwnAt
        rw [h3]
        exact ⟨_, rfl⟩
      | no | tok => exact other rfl
    | _ => exact other rfl
theorem nilTs_len : ∀ (ps : List PV) (H : Hp), H.length ≤ (nilTs ps H).2.length ∧ ∀ i, i < H.length → (nilTs ps H).2[i]? = H[i]?
  | [], H => ⟨Nat.le_refl _, fun _ _ => rfl⟩
  | p :: r, H => by
    have other : (nilTs (p :: r) H) = (p :: (nilTs r H).1, (nilTs r H).2) → H.length ≤ (nilTs (p :: r) H).2.length ∧ ∀ i, i < H.length → (nilTs (p :: r) H).2[i]? = H[i]? := fun e => by rw [e]; exact nilTs_len r H
    cases p with
    | sl t sz n cs =>
      cases t with
      | nil =>
        obtain ⟨h1, h2⟩ := nilTs_len r (H ++ [.tok])
        simp only [nilTs]
        simp at h1
        exact ⟨by omega, fun i hi => by rw [h2 i (by simp; omega), List.getElem?_append_left hi]⟩
      | no | tok => exact other rfl
    | _ => exact other rfl

/-- What a variable holds, told otherwise. -/
theorem set_obj (hI : Inv g H w) {id : Nat} {cs cs' : List PV} (hk : H[id]? = some (.cells cs)) (hr : ∀ b e top, g.μ id = some (b, e, top) → ∃ us, RVs g H cs' us ∧ ∀ (i : Nat) v, us[i]? = some v → w.cell? ⟨b, e + i, none⟩ = some v) (hl : cs'.length = cs.length) : Inv g (H.set id (.cells cs')) w ∧ Ext g H w g (H.set id (.cells cs')) w := by
  have hidlt : id < H.length := (List.getElem?_eq_some_iff.1 hk).1
  have hget : ∀ i, (H.set id (.cells cs'))[i]? = if id = i then some (.cells cs') else H[i]? := fun i => get_set_cells hidlt
  have hal : ∀ i, Alive (H.set id (.cells cs')) i ↔ Alive H i := fun i => by
    unfold Alive
    rw [hget]
    by_cases h : id = i
    · subst h; rw [if_pos rfl]; exact ⟨fun _ => .inr ⟨cs, hk⟩, fun _ => .inr ⟨_, rfl⟩⟩
    · rw [if_neg h]
  have hE : Ext g H w g (H.set id (.cells cs')) w := by
    refine ⟨fun _ _ _ h => h, fun _ _ => rfl, by simp, fun i _ h => ?_, rfl, rfl, rfl, Nat.le_refl _, fun _ _ _ => rfl, fun _ _ _ _ => rfl, fun i ⟨j, e', t', ha, hm'⟩ => .inl ⟨j, e', t', (hal j).1 ha, hm'⟩⟩
    rw [hget] at h
    by_cases hc : id = i
    · rw [if_pos hc] at h; cases h
    · rw [if_neg hc] at h; exact ⟨h, rfl⟩
  refine ⟨⟨hI.σw, hI.one, hI.z, fun i b e top ha => hI.blk i b e top ((hal i).1 ha), fun i ds b e top hc hm => ?_, fun i i' b e top e' top' ha ha' => hI.dist i i' b e top e' top' ((hal i).1 ha) ((hal i').1 ha'), hI.c.ext hE⟩, hE⟩
  rw [hget] at hc
  by_cases hi : id = i
  · subst hi
    rw [if_pos rfl] at hc
    cases hc
    obtain ⟨h2, _⟩ := hI.obj id cs b e top hk hm
    obtain ⟨us, h3, h4⟩ := hr b e top hm
    exact ⟨by omega, us, h3.ext hE, h4⟩
  · rw [if_neg hi] at hc
    obtain ⟨h2, us, h3, h4⟩ := hI.obj i ds b e top hc hm
    exact ⟨h2, us, h3.ext hE, h4⟩
theorem nilTs_length : ∀ (ps : List PV) (H : Hp), (nilTs ps H).1.length = ps.length
  | [], H => rfl
  | p :: r, H => by
    have other : (nilTs (p :: r) H) = (p :: (nilTs r H).1, (nilTs r H).2) → (nilTs (p :: r) H).1.length = (p :: r).length := fun e => by rw [e]; simp [nilTs_length r H]
    cases p with
    | sl t sz n cs =>
      cases t with
      | nil => simp [nilTs, nilTs_length r]
      | no | tok => exact other rfl
    | _ => exact other rfl
theorem nilObs_ok (hI : Inv g H w) : ∀ n, ∃ g', Inv g' (nilObs n H) w ∧ Ext g H w g' (nilObs n H) w
  | 0 => ⟨g, hI, Ext.refl g H w⟩
  | n + 1 => by
    obtain ⟨g1, h1, h2⟩ := nilObs_ok hI n
    simp only [nilObs]
    split
    · rename_i cs hcs
      obtain ⟨g2, h3, h4, h5, h5'⟩ := nilTs_ok cs h1
      have hlt : n < (nilObs n H).length := (List.getElem?_eq_some_iff.1 hcs).1
      have hcs' : (nilTs cs (nilObs n H)).2[n]? = some (.cells cs) := by rw [(nilTs_len cs _).2 n hlt]; exact hcs
      obtain ⟨h6, h7⟩ := set_obj h3 hcs' (fun b e top hm => by
        rw [h5' n hlt] at hm
        obtain ⟨_, us, h8, h9⟩ := h1.obj n cs b e top hcs hm
        exact ⟨us, h5 us h8, h9⟩) (nilTs_length cs _)
      exact ⟨g2, h6, (h2.trans h4).trans h7⟩
    · exact ⟨g1, h1, h2⟩
theorem nilObs_len (H : Hp) : ∀ n, H.length ≤ (nilObs n H).length
  | 0 => Nat.le_refl _
  | n + 1 => by
    simp only [nilObs]
    split
    · have := (nilTs_len ‹List PV› (nilObs n H)).1
      have := nilObs_len H n
      simp; omega
    · exact nilObs_len H n
theorem maskT_ok (live : List Nat) : ∀ (ps : List PV) (i : Nat) (vs : List Value), RVs g H ps vs → RVs g H (maskT live i ps) vs
  | [], _, _, h => h
  | p :: r, i, vs, h => by
    simp only [maskT, RVs] at h ⊢
    obtain ⟨v, us, rfl, h1, h2⟩ := h
    refine ⟨v, us, rfl, ?_, maskT_ok live r (i + 1) us h2⟩
    split
    · exact h1
    · simp only [RV]
theorem compact_fst (n : Nat) (ps : List PV) (H : Hp) : (compact n ps H).1 = PV.rens (renOf n H (used n ps H)) ps := rfl

/-- At a loop's head all is as it was. -/
theorem head_ok {n : Nat} {live : List Nat} {tm : List PV} {vs : List Value} (hI : Inv g H w) (hr : RVs g H tm vs) (hn : n ≤ H.length) {g0 : Gh} {H0 : Hp} {w0 : World} (h0 : H0.length ≤ n) (hE : Ext g0 H0 w0 g H w) :
    ∃ g', Inv g' (head n live tm H).2 w ∧ RVs g' (head n live tm H).2 (head n live tm H).1 vs ∧ Ext g0 H0 w0 g' (head n live tm H).2 w := by
  obtain ⟨g1, h1, h2, h3, _⟩ := nilTs_ok (maskT live 0 tm) hI
  obtain ⟨g2, h4, h5⟩ := nilObs_ok h1 n
  have hl : n ≤ (nilObs n (nilTs (maskT live 0 tm) H).2).length := by
    have := nilObs_len (nilTs (maskT live 0 tm) H).2 n
    have := (nilTs_len (maskT live 0 tm) H).1
    omega
  obtain ⟨g3, h6, h7, h8⟩ := compact_ext h4 hl (nilTs (maskT live 0 tm) H).1 h0 ((hE.trans h2).trans h5)
  exact ⟨g3, h6, RVs.ren h7 ((h3 vs (maskT_ok live tm 0 vs hr)).ext h5), h8⟩
theorem head_len {n : Nat} {live : List Nat} {tm : List PV} (hn : n ≤ H.length) : n ≤ (head n live tm H).2.length := by
  have := nilObs_len (nilTs (maskT live 0 tm) H).2 n
  have := (nilTs_len (maskT live 0 tm) H).1
  simp only [head]
  rw [compact_len (by omega)]
  omega
end
end Go.Proofs.YtnljpfjoboafoaaDoor.Ev
