/- Cells written: behind a slice's end by who has the right, or in a variable. -/
import Derived.Test.YtnljpfjoboafoaaDoorEv3
namespace Go.Proofs.YtnljpfjoboafoaaDoor.Ev
set_option linter.all false
open Go Go.RowKit

theorem setCells_facts (b : Nat) : ∀ (vs : List Value) (o : Nat) (w : World) (carr : Array Value) (el : TypeId) (fr : Nat × Nat), w.heap[b]? = some (.cells carr el fr) →
    (∃ carr', (w.setCells b o vs).heap[b]? = some (.cells carr' el fr) ∧ carr'.size = carr.size) ∧ (∀ k, k ≠ b → (w.setCells b o vs).heap[k]? = w.heap[k]?) ∧ (w.setCells b o vs).heap.size = w.heap.size ∧
      (w.setCells b o vs).os = w.os ∧ (w.setCells b o vs).tape = w.tape ∧ (w.setCells b o vs).output = w.output
  | [], o, w, carr, el, fr, h => ⟨⟨carr, h, rfl⟩, fun _ _ => rfl, rfl, rfl, rfl, rfl⟩
  | v :: r, o, w, carr, el, fr, h => by
    have hb : (w.setCell ⟨b, o, none⟩ v).heap[b]? = some (.cells (carr.setIfInBounds o v) el fr) := by
      simp [World.setCell, Array.getElem?_modify, h]
    obtain ⟨⟨carr', h1, h2⟩, h3, h4, h5, h6, h7⟩ := setCells_facts b r (o + 1) (w.setCell ⟨b, o, none⟩ v) _ el fr hb
    refine ⟨⟨carr', h1, by rw [h2]; simp⟩, fun k hk => ?_, ?_, h5, h6, h7⟩
    · show ((w.setCell ⟨b, o, none⟩ v).setCells b (o + 1) r).heap[k]? = _
      rw [h3 k hk]
      simp only [World.setCell, Array.getElem?_modify]
      rw [if_neg (by omega)]
    · show ((w.setCell ⟨b, o, none⟩ v).setCells b (o + 1) r).heap.size = _
      rw [h4]; simp [World.setCell]

theorem cell_isSome {w : World} {b o : Nat} {carr : Array Value} {el : TypeId} {fr : Nat × Nat} (h : w.heap[b]? = some (.cells carr el fr)) (ho : o < carr.size) : (w.cell? ⟨b, o, none⟩).isSome = true := by
  simp [World.cell?, h, ho]
theorem cell_frozen {w : World} {b o : Nat} {carr : Array Value} {el : TypeId} {fr : Nat × Nat} (h : w.heap[b]? = some (.cells carr el fr)) (ho : ¬ (fr.1 ≤ o ∧ o < fr.2)) : w.frozen? ⟨b, o, none⟩ = false := by
  obtain ⟨lo, hi⟩ := fr
  simp only [World.frozen?, h]
  simpa using ho

theorem get_kill_tok {H : Hp} {k id : Nat} (h : (H.set k .dead ++ [.tok])[id]? = some .tok) : id = H.length ∨ (id < H.length ∧ id ≠ k ∧ H[id]? = some .tok) := by
  rcases Nat.lt_trichotomy id H.length with hl | hl | hl
  · rw [List.getElem?_append_left (by simpa using hl), get_set_dead] at h
    split at h
    · cases h
    · rename_i hc
      exact .inr ⟨hl, fun e => hc ⟨e.symm, e ▸ hl⟩, h⟩
  · exact .inl hl
  · rw [List.getElem?_eq_none (by simp; omega)] at h
    cases h
theorem get_kill_cells {H : Hp} {k id : Nat} {cs : List PV} (h : (H.set k .dead ++ [.tok])[id]? = some (.cells cs)) : id < H.length ∧ id ≠ k ∧ H[id]? = some (.cells cs) := by
  rcases Nat.lt_trichotomy id H.length with hl | hl | hl
  · rw [List.getElem?_append_left (by simpa using hl), get_set_dead] at h
    split at h
    · cases h
    · rename_i hc
      exact ⟨hl, fun e => hc ⟨e.symm, e ▸ hl⟩, h⟩
  · subst hl
    rw [List.getElem?_append_right (by simp)] at h
    simp at h
  · rw [List.getElem?_eq_none (by simp; omega)] at h
    cases h
theorem alive_kill_tok {H : Hp} {k id : Nat} (h : Alive (H.set k .dead ++ [.tok]) id) : id = H.length ∨ (id < H.length ∧ id ≠ k ∧ Alive H id) := by
  rcases h with h | ⟨cs, h⟩
  · exact (get_kill_tok h).imp (fun h => h) fun ⟨a, b, c⟩ => ⟨a, b, .inl c⟩
  · obtain ⟨a, b, c⟩ := get_kill_cells h
    exact .inr ⟨a, b, .inr ⟨cs, c⟩⟩

/-- Cells written behind a slice's end, by who has the right: the right is given up, another one is had. -/
theorem put_spare {P : Program} {g : Gh} {H : Hp} {w : World} (hI : Inv g H w) {k b e top : Nat} (hk : H[k]? = some .tok) (hm : g.μ k = some (b, e, top)) {new : List Value} (hl : e + new.length ≤ top) (h1 : ∀ v ∈ new, v.oneCell' = true) :
    (storeCells ⟨b, e, none⟩ new).run P w = .ok () (w.setCells b e new) ∧
    ∃ g', Inv g' (H.set k .dead ++ [.tok]) (w.setCells b e new) ∧ Ext g H w g' (H.set k .dead ++ [.tok]) (w.setCells b e new) ∧ g'.σ.holds b e new ∧ g'.μ H.length = some (b, e + new.length, top) := by
  obtain ⟨carr, el, fr, hb, he, ht, hf, hs⟩ := hI.blk k b e top (.inl hk) hm
  have hklt : k < H.length := (List.getElem?_eq_some_iff.1 hk).1
  have hsome : ∀ j, j < new.length → (w.cell? ⟨b, e + j, none⟩).isSome = true := fun j hj => cell_isSome hb (by omega)
  have hfz : ∀ j, j < new.length → w.frozen? ⟨b, e + j, none⟩ = false := fun j hj => cell_frozen hb (hf.free (by omega))
  refine ⟨by simpa using run_storeCells_cells (P := P) b e new 0 w (by simpa using hsome) (by simpa using hfz) h1, ⟨g.σ.put b e new, muPut g.μ H.length (some (b, e + new.length, top))⟩, ?_⟩
  obtain ⟨⟨carr', hb', hsz'⟩, hoth, hsz, hos, htp, hout⟩ := setCells_facts b new e w carr el fr hb
  have hle : g.σ.le (g.σ.put b e new) := Sg.put_le (fun i _ => hs (e + i) (by omega))
  have hnot : ∀ id b' e' top', id ≠ k → Alive H id → g.μ id = some (b', e', top') → b' ≠ b := fun id b' e' top' hne ha hm' heq => by
    subst heq
    exact hne (hI.dist id k b' e' top' e top ha (.inl hk) hm' hm)
  have hE : Ext g H w ⟨g.σ.put b e new, muPut g.μ H.length (some (b, e + new.length, top))⟩ (H.set k .dead ++ [.tok]) (w.setCells b e new) := by
    refine ⟨hle, fun id hid => ?_, by simp, fun i hi ht' => ?_, hos, htp, hout, by omega, fun i hi ho => hoth i (fun heq => ho ⟨k, e, top, .inl hk, heq ▸ hm⟩), fun i o hi ho => Sg.put_ne o (fun heq => ho ⟨k, e, top, .inl hk, heq ▸ hm⟩), fun i hi => ?_⟩
    · exact muPut_ne (by omega)
    · rcases get_kill_tok ht' with h | ⟨_, _, h⟩
      · omega
      · exact ⟨h, muPut_ne (by omega)⟩
    · obtain ⟨id, e', top', ha, hm'⟩ := hi
      rcases alive_kill_tok ha with h | ⟨hl', hne, ha'⟩
      · subst h
        have hm2 : some (b, e + new.length, top) = some (i, e', top') := by rw [← hm']; exact (muPut_self _ _ _).symm
        cases hm2
        exact .inl ⟨k, e, top, .inl hk, hm⟩
      · have hm2 : g.μ id = some (i, e', top') := by rw [← hm']; exact (muPut_ne (by omega)).symm
        exact .inl ⟨id, e', top', ha', hm2⟩
  have hcell : ∀ b' o v, g.σ b' o = some v → (w.setCells b e new).cell? ⟨b', o, none⟩ = some v := fun b' o v hv => by
    rw [World.cell?_setCells_out b new e w ⟨b', o, none⟩ (fun hbb _ => by
      simp only at hbb
      subst hbb
      rcases Nat.lt_or_ge o e with h | h
      · exact .inl h
      · rw [hs o h] at hv; cases hv)]
    exact hI.σw b' o v hv
  refine ⟨⟨fun b' o v hv => ?_, Sg.put_one hI.one h1, hI.z.mono hle, fun id b' e' top' ha hm' => ?_, fun id cs b' e' top' hc hm' => ?_, fun id id' b' e' top' e2 top2 ha ha2 hm' hm2 => ?_, hI.c.ext hE⟩, hE, Sg.put_holds _ _ _ _, muPut_self _ _ _⟩
  · have hv' : Sg.put g.σ b e new b' o = some v := hv
    unfold Sg.put at hv'
    by_cases hc : b' = b ∧ e ≤ o ∧ o < e + new.length
    · rw [if_pos hc] at hv'
      obtain ⟨rfl, h2, h3⟩ := hc
      have hj : o - e < new.length := by omega
      have := World.cell?_setCells_in b' new e w hsome (o - e) hj
      rw [show e + (o - e) = o by omega] at this
      rw [this]
      rw [List.getElem?_eq_getElem hj] at hv'
      exact hv'
    · rw [if_neg hc] at hv'
      exact hcell b' o v hv'
  · rcases alive_kill_tok ha with h | ⟨hl', hne, ha'⟩
    · subst h
      have hm3 : some (b, e + new.length, top) = some (b', e', top') := by rw [← hm']; exact (muPut_self _ _ _).symm
      cases hm3
      refine ⟨carr', el, fr, hb', hl, by omega, by rw [hsz']; exact hf, fun o ho => ?_⟩
      show Sg.put g.σ b e new b o = none
      unfold Sg.put
      rw [if_neg (by omega)]
      exact hs o (by omega)
    · have hm3 : g.μ id = some (b', e', top') := by rw [← hm']; exact (muPut_ne (by omega)).symm
      have hbb := hnot id b' e' top' hne ha' hm3
      obtain ⟨c2, el2, fr2, h2, h3, h4, h5, h6⟩ := hI.blk id b' e' top' ha' hm3
      exact ⟨c2, el2, fr2, by rw [hoth b' hbb]; exact h2, h3, h4, h5, fun o ho => by
        show Sg.put g.σ b e new b' o = none
        rw [Sg.put_ne o hbb]; exact h6 o ho⟩
  · obtain ⟨hl', hne, hc'⟩ := get_kill_cells hc
    have hm3 : g.μ id = some (b', e', top') := by rw [← hm']; exact (muPut_ne (by omega)).symm
    have hbb := hnot id b' e' top' hne (.inr ⟨cs, hc'⟩) hm3
    obtain ⟨h3, us, h4, h5⟩ := hI.obj id cs b' e' top' hc' hm3
    exact ⟨h3, us, h4.ext hE, fun i v hv => by
      rw [World.cell?_of_block (w := w) (hoth b' hbb)]
      exact h5 i v hv⟩
  · rcases alive_kill_tok ha with h | ⟨hl', hne, ha'⟩ <;> rcases alive_kill_tok ha2 with h2 | ⟨hl2, hne2, ha2'⟩
    · rw [h, h2]
    · subst h
      have hm3 : some (b, e + new.length, top) = some (b', e', top') := by rw [← hm']; exact (muPut_self _ _ _).symm
      cases hm3
      have hm4 : g.μ id' = some (b, e2, top2) := by rw [← hm2]; exact (muPut_ne (by omega)).symm
      exact absurd rfl (hnot id' b e2 top2 hne2 ha2' hm4)
    · subst h2
      have hm3 : some (b, e + new.length, top) = some (b', e2, top2) := by rw [← hm2]; exact (muPut_self _ _ _).symm
      cases hm3
      have hm4 : g.μ id = some (b, e', top') := by rw [← hm']; exact (muPut_ne (by omega)).symm
      exact absurd rfl (hnot id b e' top' hne ha' hm4)
    · have hm3 : g.μ id = some (b', e', top') := by rw [← hm']; exact (muPut_ne (by omega)).symm
      have hm4 : g.μ id' = some (b', e2, top2) := by rw [← hm2]; exact (muPut_ne (by omega)).symm
      exact hI.dist id id' b' e' top' e2 top2 ha' ha2' hm3 hm4

theorem get_set_cells {H : Hp} {k id : Nat} {cs : List PV} (hk : k < H.length) : (H.set k (.cells cs))[id]? = if k = id then some (.cells cs) else H[id]? := by
  by_cases h : k = id
  · subst h; rw [List.getElem?_set_self hk, if_pos rfl]
  · rw [List.getElem?_set_ne h, if_neg h]

/-- A variable's cells written. -/
theorem put_obj {P : Program} {g : Gh} {H : Hp} {w : World} (hI : Inv g H w) {id b e top off : Nat} {cs newP : List PV} (hk : H[id]? = some (.cells cs)) (hm : g.μ id = some (b, e, top)) {new : List Value} (hr : RVs g H newP new)
    (hl : off + new.length ≤ cs.length) (h1 : ∀ v ∈ new, v.oneCell' = true) :
    (storeCells ⟨b, e + off, none⟩ new).run P w = .ok () (w.setCells b (e + off) new) ∧
    Inv g (H.set id (.cells (cs.take off ++ newP ++ cs.drop (off + newP.length)))) (w.setCells b (e + off) new) ∧ Ext g H w g (H.set id (.cells (cs.take off ++ newP ++ cs.drop (off + newP.length)))) (w.setCells b (e + off) new) := by
  obtain ⟨carr, el, fr, hb, he, ht, hf, hs⟩ := hI.blk id b e top (.inr ⟨cs, hk⟩) hm
  obtain ⟨hct, us, hus, hcell⟩ := hI.obj id cs b e top hk hm
  have hidlt : id < H.length := (List.getElem?_eq_some_iff.1 hk).1
  have hsome : ∀ j, j < new.length → (w.cell? ⟨b, e + off + j, none⟩).isSome = true := fun j hj => cell_isSome hb (by omega)
  have hfz : ∀ j, j < new.length → w.frozen? ⟨b, e + off + j, none⟩ = false := fun j hj => cell_frozen hb (hf.free (by omega))
  refine ⟨by simpa using run_storeCells_cells (P := P) b (e + off) new 0 w (by simpa using hsome) (by simpa using hfz) h1, ?_⟩
  obtain ⟨⟨carr', hb', hsz'⟩, hoth, hsz, hos, htp, hout⟩ := setCells_facts b new (e + off) w carr el fr hb
  have hget : ∀ i, (H.set id (.cells (cs.take off ++ newP ++ cs.drop (off + newP.length))))[i]? = if id = i then some (.cells (cs.take off ++ newP ++ cs.drop (off + newP.length))) else H[i]? := fun i => get_set_cells hidlt
  have hal : ∀ i, Alive (H.set id (.cells (cs.take off ++ newP ++ cs.drop (off + newP.length)))) i ↔ Alive H i := fun i => by
    unfold Alive
    rw [hget]
    by_cases h : id = i
    · subst h
      rw [if_pos rfl]
      exact ⟨fun _ => .inr ⟨cs, hk⟩, fun _ => .inr ⟨_, rfl⟩⟩
    · rw [if_neg h]
  have hE : Ext g H w g (H.set id (.cells (cs.take off ++ newP ++ cs.drop (off + newP.length)))) (w.setCells b (e + off) new) := by
    refine ⟨fun _ _ _ h => h, fun _ _ => rfl, by simp, fun i _ h => ?_, hos, htp, hout, by omega, fun i hi ho => hoth i (fun heq => ho ⟨id, e, top, .inr ⟨cs, hk⟩, heq ▸ hm⟩), fun _ _ _ _ => rfl, fun i ⟨j, e', t', ha, hm'⟩ => .inl ⟨j, e', t', (hal j).1 ha, hm'⟩⟩
    rw [hget] at h
    by_cases hc : id = i
    · rw [if_pos hc] at h; cases h
    · rw [if_neg hc] at h; exact ⟨h, rfl⟩
  have hnew : RVs g H (cs.take off ++ newP ++ cs.drop (off + newP.length)) (us.take off ++ new ++ us.drop (off + newP.length)) := ((hus.take off).append hr).append (hus.drop _)
  have hnl := hr.length
  have hul := hus.length
  refine ⟨⟨fun b' o v hv => ?_, hI.one, hI.z, fun i b' e' top' ha hm' => ?_, fun i cs' b' e' top' hc hm' => ?_, fun i i' b' e' top' e2 top2 ha ha2 => hI.dist i i' b' e' top' e2 top2 ((hal i).1 ha) ((hal i').1 ha2), hI.c.ext hE⟩, hE⟩
  · by_cases hbb : b' = b
    · subst hbb
      rcases Nat.lt_or_ge o e with hoe | hoe
      · rw [World.cell?_setCells_out b' new (e + off) w ⟨b', o, none⟩ (fun _ _ => .inl (by show o < e + off; omega))]
        exact hI.σw b' o v hv
      · rw [hs o hoe] at hv
        cases hv
    · rw [World.cell?_of_block (w := w) (hoth b' hbb)]
      exact hI.σw b' o v hv
  · obtain ⟨c2, el2, fr2, h2, h3, h4, h5, h6⟩ := hI.blk i b' e' top' ((hal i).1 ha) hm'
    by_cases hbb : b' = b
    · subst hbb
      rw [hb] at h2
      cases h2
      exact ⟨carr', el, fr, hb', h3, by omega, by rw [hsz']; exact h5, h6⟩
    · exact ⟨c2, el2, fr2, by rw [hoth b' hbb]; exact h2, h3, h4, h5, h6⟩
  · rw [hget] at hc
    by_cases hi : id = i
    · subst hi
      rw [if_pos rfl] at hc
      cases hc
      rw [hm] at hm'
      cases hm'
      refine ⟨by simp; omega, _, hnew.ext hE, fun j v hv => ?_⟩
      rcases Nat.lt_or_ge j off with hj | hj
      · rw [List.append_assoc, List.getElem?_append_left (by simp; omega), List.getElem?_take, if_pos hj] at hv
        rw [World.cell?_setCells_out b new (e + off) w ⟨b, e + j, none⟩ (fun _ _ => .inl (by show e + j < e + off; omega))]
        exact hcell j v hv
      · rcases Nat.lt_or_ge j (off + new.length) with hj2 | hj2
        · rw [List.getElem?_append_left (by simp; omega), List.getElem?_append_right (by simp; omega)] at hv
          have hlt : (us.take off).length = off := by simp; omega
          rw [hlt] at hv
          have hj3 : j - off < new.length := by omega
          have := World.cell?_setCells_in b new (e + off) w hsome (j - off) hj3
          rw [show e + off + (j - off) = e + j by omega] at this
          rw [this]
          rw [List.getElem?_eq_getElem hj3] at hv
          exact hv
        · have hlt : (us.take off ++ new).length = off + new.length := by simp; omega
          rw [List.getElem?_append_right (by omega), hlt, List.getElem?_drop] at hv
          rw [World.cell?_setCells_out b new (e + off) w ⟨b, e + j, none⟩ (fun _ _ => .inr (by show e + off + new.length ≤ e + j; omega))]
          exact hcell j v (by rw [← hv]; congr 1; omega)
    · rw [if_neg hi] at hc
      obtain ⟨h3, us', h4, h5⟩ := hI.obj i cs' b' e' top' hc hm'
      have hbb : b' ≠ b := fun heq => by
        subst heq
        exact hi (hI.dist id i b' e top e' top' (.inr ⟨cs, hk⟩) (.inr ⟨cs', hc⟩) hm hm')
      exact ⟨h3, us', h4.ext hE, fun j v hv => by
        rw [World.cell?_of_block (w := w) (hoth b' hbb)]
        exact h5 j v hv⟩

theorem get_kill_any {H : Hp} {k id : Nat} {ob o : Ob} (h : (H.set k .dead ++ [ob])[id]? = some o) (hd : o ≠ .dead) : (id = H.length ∧ o = ob) ∨ (id < H.length ∧ id ≠ k ∧ H[id]? = some o) := by
  rcases Nat.lt_trichotomy id H.length with hl | hl | hl
  · rw [List.getElem?_append_left (by simpa using hl), get_set_dead] at h
    split at h
    · cases h; exact absurd rfl hd
    · rename_i hc
      exact .inr ⟨hl, fun e => hc ⟨e.symm, e ▸ hl⟩, h⟩
  · subst hl
    rw [List.getElem?_append_right (by simp)] at h
    simp at h
    exact .inl ⟨rfl, h.symm⟩
  · rw [List.getElem?_eq_none (by simp; omega)] at h
    cases h
theorem alive_kill_any {H : Hp} {k id : Nat} {ob : Ob} (h : Alive (H.set k .dead ++ [ob]) id) : id = H.length ∨ (id < H.length ∧ id ≠ k ∧ Alive H id) := by
  rcases h with h | ⟨cs, h⟩
  · rcases get_kill_any h (by simp) with ⟨e, _⟩ | ⟨a, b, c⟩
    · exact .inl e
    · exact .inr ⟨a, b, .inl c⟩
  · rcases get_kill_any h (by simp) with ⟨e, _⟩ | ⟨a, b, c⟩
    · exact .inl e
    · exact .inr ⟨a, b, .inr ⟨cs, c⟩⟩
/-- Cells written behind a row's end: the row is one of its own number from now on. -/
theorem put_more {P : Program} {g : Gh} {H : Hp} {w : World} (hI : Inv g H w) {k b e top : Nat} {cs newP : List PV} (hk : H[k]? = some (.cells cs) ∨ (H[k]? = some .tok ∧ cs = [])) (hm : g.μ k = some (b, e, top)) {new : List Value} (hr : RVs g H newP new)
    (hl : e + cs.length + new.length ≤ top) (h1 : ∀ v ∈ new, v.oneCell' = true) :
    (storeCells ⟨b, e + cs.length, none⟩ new).run P w = .ok () (w.setCells b (e + cs.length) new) ∧
    ∃ g', Inv g' (H.set k .dead ++ [.cells (cs ++ newP)]) (w.setCells b (e + cs.length) new) ∧ Ext g H w g' (H.set k .dead ++ [.cells (cs ++ newP)]) (w.setCells b (e + cs.length) new) ∧ g'.μ H.length = some (b, e, top) := by
  have hka : Alive H k := hk.elim (fun h => .inr ⟨cs, h⟩) (fun h => .inl h.1)
  obtain ⟨carr, el, fr, hb, he, ht, hf, hs⟩ := hI.blk k b e top hka hm
  have hklt : k < H.length := hka.lt
  have hold : ∃ us, RVs g H cs us ∧ ∀ (i : Nat) v, us[i]? = some v → w.cell? ⟨b, e + i, none⟩ = some v := by
    rcases hk with hk | ⟨_, rfl⟩
    · obtain ⟨_, us, h3, h4⟩ := hI.obj k cs b e top hk hm
      exact ⟨us, h3, h4⟩
    · exact ⟨[], by simp only [RVs], fun i v h => by simp at h⟩
  obtain ⟨us, hus, hcell0⟩ := hold
  have hul := hus.length
  have hsome : ∀ j, j < new.length → (w.cell? ⟨b, e + cs.length + j, none⟩).isSome = true := fun j hj => cell_isSome hb (by omega)
  have hfz : ∀ j, j < new.length → w.frozen? ⟨b, e + cs.length + j, none⟩ = false := fun j hj => cell_frozen hb (hf.free (by omega))
  refine ⟨by simpa using run_storeCells_cells (P := P) b (e + cs.length) new 0 w (by simpa using hsome) (by simpa using hfz) h1, ⟨g.σ, muPut g.μ H.length (some (b, e, top))⟩, ?_⟩
  obtain ⟨⟨carr', hb', hsz'⟩, hoth, hsz, hos, htp, hout⟩ := setCells_facts b new (e + cs.length) w carr el fr hb
  have hnot : ∀ id b' e' top', id ≠ k → Alive H id → g.μ id = some (b', e', top') → b' ≠ b := fun id b' e' top' hne ha hm' heq => by
    subst heq
    exact hne (hI.dist id k b' e' top' e top ha hka hm' hm)
  have hE : Ext g H w ⟨g.σ, muPut g.μ H.length (some (b, e, top))⟩ (H.set k .dead ++ [.cells (cs ++ newP)]) (w.setCells b (e + cs.length) new) := by
    refine ⟨fun _ _ _ h => h, fun id hid => muPut_ne (by omega), by simp, fun i hi ht' => ?_, hos, htp, hout, by omega, fun i hi ho => hoth i (fun heq => ho ⟨k, e, top, hka, heq ▸ hm⟩), fun i o hi ho => rfl, fun i hi => ?_⟩
    · rcases get_kill_any ht' (by simp) with ⟨h, _⟩ | ⟨_, _, h⟩
      · omega
      · exact ⟨h, muPut_ne (by omega)⟩
    · obtain ⟨id, e', top', ha, hm'⟩ := hi
      rcases alive_kill_any ha with h | ⟨hl', hne, ha'⟩
      · subst h
        have hm2 : some (b, e, top) = some (i, e', top') := by rw [← hm']; exact (muPut_self _ _ _).symm
        cases hm2
        exact .inl ⟨k, e, top, hka, hm⟩
      · have hm2 : g.μ id = some (i, e', top') := by rw [← hm']; exact (muPut_ne (by omega)).symm
        exact .inl ⟨id, e', top', ha', hm2⟩
  refine ⟨⟨fun b' o v hv => ?_, hI.one, hI.z, fun id b' e' top' ha hm' => ?_, fun id cs' b' e' top' hc hm' => ?_, fun id id' b' e' top' e2 top2 ha ha2 hm' hm2 => ?_, hI.c.ext hE⟩, hE, muPut_self _ _ _⟩
  · by_cases hbb : b' = b
    · subst hbb
      rcases Nat.lt_or_ge o e with hoe | hoe
      · rw [World.cell?_setCells_out b' new (e + cs.length) w ⟨b', o, none⟩ (fun _ _ => .inl (by show o < e + cs.length; omega))]
        exact hI.σw b' o v hv
      · have hv' : g.σ b' o = some v := hv
        rw [hs o hoe] at hv'
        cases hv'
    · rw [World.cell?_of_block (w := w) (hoth b' hbb)]
      exact hI.σw b' o v hv
  · rcases alive_kill_any ha with h | ⟨hl', hne, ha'⟩
    · subst h
      have hm3 : some (b, e, top) = some (b', e', top') := by rw [← hm']; exact (muPut_self _ _ _).symm
      cases hm3
      exact ⟨carr', el, fr, hb', he, by omega, by rw [hsz']; exact hf, hs⟩
    · have hm3 : g.μ id = some (b', e', top') := by rw [← hm']; exact (muPut_ne (by omega)).symm
      have hbb := hnot id b' e' top' hne ha' hm3
      obtain ⟨c2, el2, fr2, h2, h3, h4, h5, h6⟩ := hI.blk id b' e' top' ha' hm3
      exact ⟨c2, el2, fr2, by rw [hoth b' hbb]; exact h2, h3, h4, h5, h6⟩
  · rcases get_kill_any hc (by simp) with ⟨h, hob⟩ | ⟨hl', hne, hc'⟩
    · subst h
      cases hob
      have hm3 : some (b, e, top) = some (b', e', top') := by rw [← hm']; exact (muPut_self _ _ _).symm
      cases hm3
      have hrl := hr.length
      refine ⟨by simp; omega, us ++ new, (hus.append hr).ext hE, fun j v hv => ?_⟩
      rcases Nat.lt_or_ge j us.length with hj | hj
      · rw [List.getElem?_append_left hj] at hv
        rw [World.cell?_setCells_out b new (e + cs.length) w ⟨b, e + j, none⟩ (fun _ _ => .inl (by show e + j < e + cs.length; omega))]
        exact hcell0 j v hv
      · rw [List.getElem?_append_right hj] at hv
        have hj3 : j - us.length < new.length := (List.getElem?_eq_some_iff.1 hv).1
        have := World.cell?_setCells_in b new (e + cs.length) w hsome (j - us.length) hj3
        rw [show e + cs.length + (j - us.length) = e + j by omega] at this
        rw [this]
        rw [List.getElem?_eq_getElem hj3] at hv
        exact hv
    · have hm3 : g.μ id = some (b', e', top') := by rw [← hm']; exact (muPut_ne (by omega)).symm
      have hbb := hnot id b' e' top' hne (.inr ⟨cs', hc'⟩) hm3
      obtain ⟨h3, us', h4, h5⟩ := hI.obj id cs' b' e' top' hc' hm3
      exact ⟨h3, us', h4.ext hE, fun i v hv => by
        rw [World.cell?_of_block (w := w) (hoth b' hbb)]
        exact h5 i v hv⟩
  · rcases alive_kill_any ha with h | ⟨hl', hne, ha'⟩ <;> rcases alive_kill_any ha2 with h2 | ⟨hl2, hne2, ha2'⟩
    · rw [h, h2]
    · subst h
      have hm3 : some (b, e, top) = some (b', e', top') := by rw [← hm']; exact (muPut_self _ _ _).symm
      cases hm3
      have hm4 : g.μ id' = some (b, e2, top2) := by rw [← hm2]; exact (muPut_ne (by omega)).symm
      exact absurd rfl (hnot id' b e2 top2 hne2 ha2' hm4)
    · subst h2
      have hm3 : some (b, e, top) = some (b', e2, top2) := by rw [← hm2]; exact (muPut_self _ _ _).symm
      cases hm3
      have hm4 : g.μ id = some (b, e', top') := by rw [← hm']; exact (muPut_ne (by omega)).symm
      exact absurd rfl (hnot id b e' top' hne ha' hm4)
    · have hm3 : g.μ id = some (b', e', top') := by rw [← hm']; exact (muPut_ne (by omega)).symm
      have hm4 : g.μ id' = some (b', e2, top2) := by rw [← hm2]; exact (muPut_ne (by omega)).symm
      exact hI.dist id id' b' e' top' e2 top2 ha' ha2' hm3 hm4
end Go.Proofs.YtnljpfjoboafoaaDoor.Ev
