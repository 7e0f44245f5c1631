/- A variable of six cells: what a loop's head and a function's end leave of it. -/
import Derived.Test.YtnljpfjoboafoaaDoorMd
namespace Go.Proofs.YtnljpfjoboafoaaDoor.Tab
set_option linter.all false
open Go Go.RowKit Go.Proofs.YtnljpfjoboafoaaDoor.Ev
/-- What becomes of a value that lies in a cell. -/
def Img (H H' : Hp) (x x' : PV) : Prop :=
  (flat x = true ∧ x' = x) ∨ (∃ z m ds, x = .sl .nil z m ds ∧ (x' = x ∨ ∃ k, x' = .sl (.tok k) z m ds ∧ H'[k]? = some .tok)) ∨
  (∃ k k' z m ds, x = .sl (.tok k) z m ds ∧ H[k]? = some .tok ∧ x' = .sl (.tok k') z m ds ∧ H'[k']? = some .tok) ∨
  (∃ k k' o z m fs, x = .row k o z m ∧ H[k]? = some (.cells fs) ∧ fs.all flat = true ∧ x' = .row k' o z m ∧ H'[k']? = some (.cells fs))
theorem Img.trans {H H1 H2 : Hp} {x y z : PV} (h : Img H H1 x y) (g : Img H1 H2 y z) : Img H H2 x z := by
  rcases h with ⟨h1, rfl⟩ | ⟨s, m, ds, rfl, h⟩ | ⟨k, k', s, m, ds, rfl, h0, rfl, h1⟩ | ⟨k, k', o, s, m, fs, rfl, h0, h1, rfl, h2⟩
  · rcases g with ⟨g1, rfl⟩ | ⟨s, m, ds, rfl, g⟩ | ⟨k, k', s, m, ds, rfl, _⟩ | ⟨k, k', o, s, m, fs, rfl, _⟩
    · exact .inl ⟨h1, rfl⟩
    · simp [flat] at h1
    · simp [flat] at h1
    · simp [flat] at h1
  · rcases h with rfl | ⟨k, rfl, hk⟩
    · rcases g with ⟨g1, rfl⟩ | ⟨s, m, ds, e, g⟩ | ⟨k, k', s, m, ds, e, _⟩ | ⟨k, k', o, s, m, fs, e, _⟩
      · simp [flat] at g1
      · cases e; exact .inr (.inl ⟨_, _, _, rfl, g⟩)
      · cases e
      · cases e
    · rcases g with ⟨g1, rfl⟩ | ⟨s, m, ds, e, g⟩ | ⟨k, k', s, m, ds, e, _, rfl, g1⟩ | ⟨k, k', o, s, m, fs, e, _⟩
      · simp [flat] at g1
      · cases e
      · cases e; exact .inr (.inl ⟨_, _, _, rfl, .inr ⟨k', rfl, g1⟩⟩)
      · cases e
  · rcases g with ⟨g1, rfl⟩ | ⟨s, m, ds, e, g⟩ | ⟨k, k2, s, m, ds, e, _, rfl, g1⟩ | ⟨k, k', o, s, m, fs, e, _⟩
    · simp [flat] at g1
    · cases e
    · cases e; exact .inr (.inr (.inl ⟨_, k2, _, _, _, rfl, h0, rfl, g1⟩))
    · cases e
  · rcases g with ⟨g1, rfl⟩ | ⟨s, m, ds, e, g⟩ | ⟨k, k2, s, m, ds, e, _⟩ | ⟨k, k2, o, s, m, fs', e, g0, g1, rfl, g2⟩
    · simp [flat] at g1
    · cases e
    · cases e
    · cases e
      rw [h2] at g0
      cases g0
      exact .inr (.inr (.inr ⟨_, k2, _, _, _, _, rfl, h0, h1, rfl, g2⟩))
def ImgL (H H' : Hp) (cs cs' : List PV) : Prop := cs'.length = cs.length ∧ ∀ (j : Nat) (x : PV), cs[j]? = some x → ∃ x' : PV, cs'[j]? = some x' ∧ Img H H' x x'
theorem ImgL.trans {H H1 H2 : Hp} {a b c : List PV} (h : ImgL H H1 a b) (g : ImgL H1 H2 b c) : ImgL H H2 a c := by
  refine ⟨g.1.trans h.1, fun j x hx => ?_⟩
  obtain ⟨y, hy, h1⟩ := h.2 j x hx
  obtain ⟨z, hz, h2⟩ := g.2 j y hy
  exact ⟨z, hz, h1.trans h2⟩
theorem rens_map (ρ : Nat → Option Nat) : ∀ ps : List PV, PV.rens ρ ps = ps.map (PV.ren ρ)
  | [] => rfl
  | p :: r => by simp only [PV.rens, List.map_cons, rens_map ρ r]
structure VH (H : Hp) (q p : Nat) (cs : List PV) : Prop where
  at_ : H[p]? = some (.cells cs)
  pl : ∀ x ∈ cs, Img H H x x
  nd : (p :: q :: PV.toksL cs).Nodup
  aq : ∃ cs, H[q]? = some (.cells cs) ∧ cs.length = 6
theorem toksL_mem {k : Nat} : ∀ {cs : List PV}, k ∈ PV.toksL cs → ∃ x ∈ cs, k ∈ x.toks
  | x :: r, h => by
    simp only [PV.toksL, List.mem_append] at h
    rcases h with h | h
    · exact ⟨x, List.mem_cons_self, h⟩
    · obtain ⟨y, h1, h2⟩ := toksL_mem h
      exact ⟨y, List.mem_cons_of_mem _ h1, h2⟩
theorem toksL_of {k : Nat} {x : PV} : ∀ {cs : List PV}, x ∈ cs → k ∈ x.toks → k ∈ PV.toksL cs
  | y :: r, h, hk => by
    simp only [PV.toksL, List.mem_append]
    rcases List.mem_cons.1 h with rfl | h
    · exact .inl hk
    · exact .inr (toksL_of h hk)
theorem flat_toks {x : PV} (h : flat x = true) : x.toks = [] := by
  cases x with
  | sl t z n cs => cases t with
    | no => rfl
    | nil => rfl
    | tok k => simp [flat] at h
  | fn f cs => simp [flat] at h
  | agg cs => simp [flat] at h
  | tup cs => simp [flat] at h
  | row a b c d => simp [flat] at h
  | ptr a b => simp [flat] at h
  | _ => rfl
theorem Img.lt {H H' : Hp} {x x' : PV} (h : Img H H' x x') : ∀ k ∈ x.toks, k < H.length := by
  rcases h with ⟨h1, rfl⟩ | ⟨s, m, ds, rfl, h⟩ | ⟨k, k', s, m, ds, rfl, h0, rfl, h1⟩ | ⟨k, k', o, s, m, fs, rfl, h0, h1, rfl, h2⟩ <;> intro j hj
  · rw [flat_toks h1] at hj; cases hj
  · simp [PV.toks] at hj
  · simp only [PV.toks, List.mem_singleton] at hj; subst hj; exact (List.getElem?_eq_some_iff.1 h0).1
  · simp only [PV.toks, List.mem_singleton] at hj; subst hj; exact (List.getElem?_eq_some_iff.1 h0).1
theorem Img.right {H H' : Hp} {x x' : PV} (h : Img H H' x x') : Img H' H' x' x' := by
  rcases h with ⟨h1, rfl⟩ | ⟨s, m, ds, rfl, h⟩ | ⟨k, k', s, m, ds, rfl, h0, rfl, h1⟩ | ⟨k, k', o, s, m, fs, rfl, h0, h1, rfl, h2⟩
  · exact .inl ⟨h1, rfl⟩
  · rcases h with rfl | ⟨k, rfl, hk⟩
    · exact .inr (.inl ⟨_, _, _, rfl, .inl rfl⟩)
    · exact .inr (.inr (.inl ⟨k, k, _, _, _, rfl, hk, rfl, hk⟩))
  · exact .inr (.inr (.inl ⟨k', k', _, _, _, rfl, h1, rfl, h1⟩))
  · exact .inr (.inr (.inr ⟨k', k', _, _, _, _, rfl, h2, h1, rfl, h2⟩))
theorem ImgL.pl {H H' : Hp} {cs cs' : List PV} (h : ImgL H H' cs cs') : ∀ x ∈ cs', Img H' H' x x := fun x hx => by
  obtain ⟨j, hj, rfl⟩ := List.mem_iff_getElem.1 hx
  have hj2 : j < cs.length := by rw [← h.1]; exact hj
  obtain ⟨x', h1, h2⟩ := h.2 j _ (List.getElem?_eq_getElem hj2)
  rw [List.getElem?_eq_getElem hj] at h1
  cases h1
  exact h2.right
section
variable {H : Hp} {q p n : Nat} {cs : List PV}
theorem VH.plt (h : VH H q p cs) : p < H.length := (List.getElem?_eq_some_iff.1 h.at_).1
theorem VH.qlt (h : VH H q p cs) : q < H.length := by obtain ⟨_, h, _⟩ := h.aq; exact (List.getElem?_eq_some_iff.1 h).1
theorem VH.tlt (h : VH H q p cs) : ∀ k ∈ PV.toksL cs, k < H.length := fun k hk => by
  obtain ⟨x, h1, h2⟩ := toksL_mem hk
  exact (h.pl x h1).lt k h2
theorem VH.compact {ps : List PV} (h : VH H q p cs) (hn : n ≤ H.length) (hp : p < n) (hq : q < n) : ∃ cs', VH (compact n ps H).2 q p cs' ∧ ImgL H (Ev.compact n ps H).2 cs cs' := by
  have hpc := h.at_
  have held : ∀ k ∈ PV.toksL cs, Held n ps H k := fun k hk => .inr ⟨p, _, hp, hpc, hk⟩
  have hpt := (cpt (ps := ps) hn (k := p) (.inr hp)).2 _ hpc
  obtain ⟨cq, hqc, hql⟩ := h.aq
  have hqt := (cpt (ps := ps) hn (k := q) (.inr hq)).2 _ hqc
  have hinj : ∀ k1 k2 x, renOf n H (used n ps H) k1 = some x → renOf n H (used n ps H) k2 = some x → k1 = k2 := fun k1 k2 x h1 h2 => ren_inj h1 h2
  have tok : ∀ k, Held n ps H k → H[k]? = some .tok → ∃ k', renOf n H (used n ps H) k = some k' ∧ (Ev.compact n ps H).2[k']? = some .tok := fun k hh ht => (cpt hn (.inl hh)).1 ht hh
  have cel : ∀ k cs, Held n ps H k → H[k]? = some (.cells cs) → ∃ k', renOf n H (used n ps H) k = some k' ∧ (Ev.compact n ps H).2[k']? = some (.cells (PV.rens (renOf n H (used n ps H)) cs)) := fun k cs hh ht => by
    obtain ⟨k', h1, h2, _⟩ := (cpt hn (.inl hh)).2 cs ht
    exact ⟨k', h1, h2⟩
  generalize (Ev.compact n ps H).2 = H' at *
  generalize renOf n H (used n ps H) = ρ at *
  obtain ⟨p', hp1, hp2, hp3⟩ := hpt
  obtain rfl := hp3 hp
  obtain ⟨q', hq1, hq2, hq3⟩ := hqt
  obtain rfl := hq3 hq
  have img : ImgL H H' cs (PV.rens ρ cs) := by
    refine ⟨rens_length _ _, fun j x hx => ?_⟩
    have hm := List.mem_of_getElem? hx
    have hg : (PV.rens ρ cs)[j]? = some (x.ren ρ) := by rw [rens_map, List.getElem?_map, hx]; rfl
    refine ⟨_, hg, ?_⟩
    rcases h.pl x hm with ⟨h1, _⟩ | ⟨s, m, ds, rfl, _⟩ | ⟨k, k', s, m, ds, rfl, h0, _⟩ | ⟨k, k', o, s, m, fs, rfl, h0, h1, _⟩
    · refine .inl ⟨h1, ?_⟩
      have := rens_flat ρ (env := [x]) (by simp [h1])
      simpa [PV.rens] using this
    · exact .inr (.inl ⟨_, _, _, rfl, .inl rfl⟩)
    · obtain ⟨k', g1, g2⟩ := tok k (held k (toksL_of hm (by simp [PV.toks]))) h0
      exact .inr (.inr (.inl ⟨k, k', _, _, _, rfl, h0, by simp only [PV.ren, Tk.ren, g1], g2⟩))
    · obtain ⟨k', g1, g2⟩ := cel k fs (held k (toksL_of hm (by simp [PV.toks]))) h0
      rw [rens_flat ρ h1] at g2
      exact .inr (.inr (.inr ⟨k, k', _, _, _, fs, rfl, h0, h1, by simp only [PV.ren, g1], g2⟩))
  refine ⟨_, ⟨hp2, img.pl, ?_, ⟨_, hq2, by rw [rens_length]; exact hql⟩⟩, img⟩
  have := nodup_fm hinj h.nd
  rw [List.filterMap_cons_some hp1, List.filterMap_cons_some hq1] at this
  simpa only [← rens_toks] using this
theorem Img.same {H H' : Hp} {x : PV} (h : Img H H x x) (hs : ∀ k o, k < H.length → H[k]? = some o → (o = .tok ∨ ∃ cs, o = .cells cs ∧ cs.all flat = true) → H'[k]? = some o) : Img H H' x x := by
  rcases h with ⟨h1, _⟩ | ⟨s, m, ds, rfl, _⟩ | ⟨k, k', s, m, ds, rfl, h0, _⟩ | ⟨k, k', o, s, m, fs, rfl, h0, h1, _⟩
  · exact .inl ⟨h1, rfl⟩
  · exact .inr (.inl ⟨_, _, _, rfl, .inl rfl⟩)
  · exact .inr (.inr (.inl ⟨k, k, _, _, _, rfl, h0, rfl, hs k _ (List.getElem?_eq_some_iff.1 h0).1 h0 (.inl rfl)⟩))
  · exact .inr (.inr (.inr ⟨k, k, _, _, _, fs, rfl, h0, h1, rfl, hs k _ (List.getElem?_eq_some_iff.1 h0).1 h0 (.inr ⟨_, rfl, h1⟩)⟩))
theorem VH.nils (h : VH H q p cs) (hn : n ≤ H.length) (hp : p < n) (hq : q < n) : ∃ cs', VH (nilObs n H) q p cs' ∧ ImgL H (nilObs n H) cs cs' := by
  obtain ⟨h1, h2, h3, h4⟩ := nilObs_get n H hn
  obtain ⟨cs', e1, e2, e3, e4⟩ := h4 p _ hp h.at_
  obtain ⟨cq, hqc, hql⟩ := h.aq
  obtain ⟨cq', f1, f2, _, _⟩ := h4 q _ hq hqc
  have keep : ∀ k o, k < H.length → H[k]? = some o → (o = .tok ∨ ∃ cs, o = .cells cs ∧ cs.all flat = true) → (nilObs n H)[k]? = some o := fun k o hk ho hc => by
    rcases Nat.lt_or_ge k n with hkn | hkn
    · rcases hc with rfl | ⟨cs, rfl, hf⟩
      · rw [h3 k hkn (fun cs e => by rw [ho] at e; cases e)]; exact ho
      · obtain ⟨ds, g1, g2, g3, _⟩ := h4 k cs hkn ho
        rw [flat_nils g2 hf g3] at g1
        exact g1
    · rw [h2 k hkn hk]; exact ho
  have img : ImgL H (nilObs n H) cs cs' := by
    refine ⟨e2, fun j x hx => ?_⟩
    rcases e3 j x hx with ⟨g1, g2⟩ | ⟨sz, m, ds, k, rfl, g2, _, g4⟩
    · exact ⟨x, g2, (h.pl x (List.mem_of_getElem? hx)).same keep⟩
    · exact ⟨_, g2, .inr (.inl ⟨_, _, _, rfl, .inr ⟨k, rfl, g4⟩⟩)⟩
  obtain ⟨hpq, hnd⟩ := List.nodup_cons.1 h.nd
  obtain ⟨hqn, hnd⟩ := List.nodup_cons.1 hnd
  obtain ⟨n1, n2⟩ := e4 hnd h.tlt
  have hpl := h.plt
  have hql' := h.qlt
  refine ⟨cs', ⟨e1, img.pl, List.nodup_cons.2 ⟨fun hm => ?_, List.nodup_cons.2 ⟨fun hm => ?_, n1⟩⟩, cq', f1, by omega⟩, img⟩
  · rcases List.mem_cons.1 hm with hm | hm
    · exact hpq (hm ▸ List.mem_cons_self)
    · rcases n2 p hm with hm | hm
      · exact hpq (List.mem_cons_of_mem _ hm)
      · omega
  · rcases n2 q hm with hm | hm
    · exact hqn hm
    · omega
theorem VH.app {H2 : Hp} (h : VH H q p cs) (hs : ∀ k, k < H.length → H2[k]? = H[k]?) : VH H2 q p cs ∧ ImgL H H2 cs cs := by
  have img : ImgL H H2 cs cs := ⟨rfl, fun j x hx => ⟨x, hx, (h.pl x (List.mem_of_getElem? hx)).same fun k o hk ho _ => (hs k hk).trans ho⟩⟩
  obtain ⟨cq, h1, h2⟩ := h.aq
  exact ⟨⟨(hs p h.plt).trans h.at_, img.pl, h.nd, cq, (hs q h.qlt).trans h1, h2⟩, img⟩
theorem nilTs_keep : ∀ (env : List PV) (H : Hp), H.length ≤ (nilTs env H).2.length ∧ ∀ k, k < H.length → (nilTs env H).2[k]? = H[k]?
  | [], H => ⟨Nat.le_refl _, fun _ _ => rfl⟩
  | x :: r, H => by
    have other : nilTs (x :: r) H = (x :: (nilTs r H).1, (nilTs r H).2) → H.length ≤ (nilTs (x :: r) H).2.length ∧ ∀ k, k < H.length → (nilTs (x :: r) H).2[k]? = H[k]? := fun e => by
      rw [e]; exact nilTs_keep r H
    cases x with
    | sl t sz n cs => cases t with
      | no => exact other rfl
      | tok k => exact other rfl
      | nil =>
        have e : nilTs (.sl .nil sz n cs :: r) H = (.sl (.tok H.length) sz n cs :: (nilTs r (H ++ [.tok])).1, (nilTs r (H ++ [.tok])).2) := rfl
        obtain ⟨g1, g2⟩ := nilTs_keep r (H ++ [.tok])
        rw [e]
        show H.length ≤ (nilTs r (H ++ [.tok])).2.length ∧ ∀ k, k < H.length → (nilTs r (H ++ [.tok])).2[k]? = H[k]?
        rw [List.length_append, List.length_singleton] at g1
        refine ⟨by omega, fun k hk => ?_⟩
        rw [g2 k (by simp; omega), List.getElem?_append_left hk]
    | _ => exact other rfl
/-- A loop's head. -/
theorem VH.head {env : List PV} (h : VH H q p cs) (hn : n ≤ H.length) (hp : p < n) (hq : q < n) (he : ∀ x ∈ env, flat x = true ∨ x = .ptr p 0 ∨ x = .ptr q 0 ∨ ∃ z m ds, x = .sl .nil z m ds) :
    ∃ env' H' cs', headS n env H = (env', H') ∧ VH H' q p cs' ∧ ImgL H H' cs cs' ∧ n ≤ H'.length ∧ env'.length = env.length ∧
      ∀ (j : Nat) (x : PV), env[j]? = some x → ((∀ z m ds, x ≠ .sl .nil z m ds) → env'[j]? = some x) ∧ ∀ z m ds, x = .sl .nil z m ds → ∃ k, env'[j]? = some (.sl (.tok k) z m ds) := by
  obtain ⟨hk1, hk2⟩ := nilTs_keep env H
  obtain ⟨ht1, ht2⟩ := nilTs_get env H
  obtain ⟨v1, i1⟩ := h.app hk2
  obtain ⟨cs2, v2, i2⟩ := v1.nils (n := n) (by omega) hp hq
  have hlen := (nilObs_get n (nilTs env H).2 (by omega)).1
  obtain ⟨cs3, v3, i3⟩ := v2.compact (n := n) (ps := (nilTs env H).1) (by omega) hp hq
  have hρp : renOf n (nilObs n (nilTs env H).2) (used n (nilTs env H).1 (nilObs n (nilTs env H).2)) p = some p := by
    unfold renOf
    rw [if_pos (by rw [isCells_iff.2 ⟨_, v2.at_⟩, Bool.and_true]; simpa using hp)]
  have hρq : renOf n (nilObs n (nilTs env H).2) (used n (nilTs env H).1 (nilObs n (nilTs env H).2)) q = some q := by
    obtain ⟨cs, hc, _⟩ := v2.aq
    unfold renOf
    rw [if_pos (by rw [isCells_iff.2 ⟨_, hc⟩, Bool.and_true]; simpa using hq)]
  have tokk : ∀ k, k ∈ PV.toksL (nilTs env H).1 → (nilObs n (nilTs env H).2)[k]? = some .tok → ∃ k', renOf n (nilObs n (nilTs env H).2) (used n (nilTs env H).1 (nilObs n (nilTs env H).2)) k = some k' := fun k hk ht => by
    obtain ⟨k', g, _⟩ := (cpt (n := n) (ps := (nilTs env H).1) (H := nilObs n (nilTs env H).2) (by omega) (k := k) (.inl (.inl hk))).1 ht (.inl hk)
    exact ⟨k', g⟩
  have hob := nilObs_get n (nilTs env H).2 (by omega)
  refine ⟨PV.rens (renOf n (nilObs n (nilTs env H).2) (used n (nilTs env H).1 (nilObs n (nilTs env H).2))) (nilTs env H).1, _, cs3, rfl, v3, (i1.trans i2).trans i3, cpt_len (by omega), by rw [rens_length, ht1], fun j x hx => ?_⟩
  have hget : ∀ y, (nilTs env H).1[j]? = some y → (PV.rens (renOf n (nilObs n (nilTs env H).2) (used n (nilTs env H).1 (nilObs n (nilTs env H).2))) (nilTs env H).1)[j]? = some (y.ren (renOf n (nilObs n (nilTs env H).2) (used n (nilTs env H).1 (nilObs n (nilTs env H).2)))) := fun y hy => by rw [rens_map, List.getElem?_map, hy]; rfl
  rcases ht2 j x hx with ⟨g1, g2⟩ | ⟨z, m, ds, k, rfl, g2, g3, g4⟩
  · refine ⟨fun _ => ?_, fun z m ds e => absurd e (g1 _ _ _)⟩
    rw [hget x g2]
    rcases he x (List.mem_of_getElem? hx) with hf | rfl | rfl | ⟨z, m, ds, rfl⟩
    · have := rens_flat (renOf n (nilObs n (nilTs env H).2) (used n (nilTs env H).1 (nilObs n (nilTs env H).2))) (env := [x]) (by simp [hf])
      simp only [PV.rens, List.cons.injEq, and_true] at this
      rw [this]
    · simp only [PV.ren, hρp]
    · simp only [PV.ren, hρq]
    · exact absurd rfl (g1 _ _ _)
  · refine ⟨fun hne => absurd rfl (hne _ _ _), fun z' m' ds' e => ?_⟩
    cases e
    have hkt : k ∈ PV.toksL (nilTs env H).1 := toksL_of (List.mem_of_getElem? g2) (by simp [PV.toks])
    have hkl := (List.getElem?_eq_some_iff.1 g4).1
    have hko : (nilObs n (nilTs env H).2)[k]? = some .tok := by
      rw [hob.2.1 k (by omega) hkl]; exact g4
    obtain ⟨k', hk'⟩ := tokk k hkt hko
    exact ⟨k', by rw [hget _ g2]; simp only [PV.ren, Tk.ren, hk']⟩
end
end Go.Proofs.YtnljpfjoboafoaaDoor.Tab

namespace Go.Proofs.YtnljpfjoboafoaaDoor.Tab
set_option linter.all false
open Go Go.RowKit Go.Proofs.YtnljpfjoboafoaaDoor.Ev
theorem RowAt.img {H H' : Hp} {sz n : Nat} {a a' : PV} {cs : List PV} (h : RowAt H sz a cs n) (hf : cs.all flat = true) (g : Img H H' a a') : RowAt H' sz a' cs n := by
  rcases h with ⟨h0, rfl⟩ | ⟨h0, k, z, rfl, hz, hk⟩ | ⟨h0, k, rfl, hk⟩
  · rcases g with ⟨g1, rfl⟩ | ⟨s, m, ds, e, g⟩ | ⟨k, k', s, m, ds, e, _⟩ | ⟨k, k', o, s, m, fs, e, _⟩
    · simp [flat] at g1
    · cases e
      rcases g with rfl | ⟨k, rfl, hk⟩
      · exact .inl ⟨h0, rfl⟩
      · exact .inr (.inl ⟨h0, k, 0, rfl, .inr rfl, hk⟩)
    · cases e
    · cases e
  · rcases g with ⟨g1, rfl⟩ | ⟨s, m, ds, e, g⟩ | ⟨k, k2, s, m, ds, e, _, rfl, g1⟩ | ⟨k, k', o, s, m, fs, e, _⟩
    · simp [flat] at g1
    · cases e
    · cases e; exact .inr (.inl ⟨h0, k2, _, rfl, hz, g1⟩)
    · cases e
  · rcases g with ⟨g1, rfl⟩ | ⟨s, m, ds, e, g⟩ | ⟨k, k2, s, m, ds, e, _⟩ | ⟨k, k2, o, s, m, fs', e, g0, g1, rfl, g2⟩
    · simp [flat] at g1
    · cases e
    · cases e
    · cases e
      rw [hk] at g0
      cases g0
      exact .inr (.inr ⟨h0, k2, rfl, g2⟩)
/-- The twin as it is made: these items so far. -/
def TW (H : Hp) (s : Spl) (l : List Itm) : Prop := ∃ a x2 x3 x5, VH H 0 1 [a, .int .i64 s.packs, x2, x3, .int .i64 s.of_, x5] ∧ RowAt H 11 a (iCs l) l.length
theorem TW.img {H H' : Hp} {s : Spl} {l : List Itm} {a x2 x3 x5 : PV} {cs' : List PV} (hr : RowAt H 11 a (iCs l) l.length) (hv : VH H' 0 1 cs') (hi : ImgL H H' [a, .int .i64 s.packs, x2, x3, .int .i64 s.of_, x5] cs') : TW H' s l := by
  obtain ⟨hl, hg⟩ := hi
  match cs', hl with
  | [y0, y1, y2, y3, y4, y5], _ =>
    obtain ⟨_, e0, i0⟩ := hg 0 _ rfl
    obtain ⟨_, e1, i1⟩ := hg 1 _ rfl
    obtain ⟨_, e4, i4⟩ := hg 4 _ rfl
    simp only [List.getElem?_cons_zero, List.getElem?_cons_succ, Option.some.injEq] at e0 e1 e4
    subst e0; subst e1; subst e4
    have fi : ∀ (z : Int) y, Img H H' (.int .i64 z) y → y = .int .i64 z := fun z y h => by
      rcases h with ⟨_, h⟩ | ⟨_, _, _, h, _⟩ | ⟨_, _, _, _, _, h, _⟩ | ⟨_, _, _, _, _, _, h, _⟩
      · exact h
      · cases h
      · cases h
      · cases h
    obtain rfl := fi _ _ i1
    obtain rfl := fi _ _ i4
    exact ⟨_, _, _, _, hv, hr.img (iCs_flat _) i0⟩
theorem VH.headE {H : Hp} {q p n : Nat} {cs env : List PV} (h : VH H q p cs) (hn : n ≤ H.length) (hp : p < n) (hq : q < n) (he : ∀ x ∈ env, flat x = true ∨ x = .ptr p 0 ∨ x = .ptr q 0) :
    ∃ H' cs', headS n env H = (env, H') ∧ VH H' q p cs' ∧ ImgL H H' cs cs' ∧ n ≤ H'.length := by
  obtain ⟨env', H', cs', h1, h2, h3, h4, h5, h6⟩ := h.head (env := env) hn hp hq (fun x hx => by rcases he x hx with h | h | h; exact .inl h; exact .inr (.inl h); exact .inr (.inr (.inl h)))
  obtain rfl : env' = env := by
    apply List.ext_getElem?
    intro j
    cases e : env[j]? with
    | none => rw [List.getElem?_eq_none_iff] at e ⊢; omega
    | some x =>
      refine (h6 j x e).1 fun z m ds hx => ?_
      rcases he x (List.mem_of_getElem? e) with h | h | h
      · subst hx; simp [flat] at h
      · subst hx; cases h
      · subst hx; cases h
  exact ⟨H', cs', h1, h2, h3, h4⟩
theorem Img.same2 {H H' : Hp} {x : PV} (h : Img H H x x) (hs : ∀ k ∈ x.toks, H'[k]? = H[k]?) : Img H' H' x x := by
  rcases h with ⟨h1, _⟩ | ⟨s, m, ds, rfl, _⟩ | ⟨k, k', s, m, ds, rfl, h0, _⟩ | ⟨k, k', o, s, m, fs, rfl, h0, h1, _⟩
  · exact .inl ⟨h1, rfl⟩
  · exact .inr (.inl ⟨_, _, _, rfl, .inl rfl⟩)
  · have := (hs k (by simp [PV.toks])).trans h0
    exact .inr (.inr (.inl ⟨k, k, _, _, _, rfl, this, rfl, this⟩))
  · have := (hs k (by simp [PV.toks])).trans h0
    exact .inr (.inr (.inr ⟨k, k, _, _, _, fs, rfl, this, h1, rfl, this⟩))
theorem TW.step {s : Spl} {l : List Itm} {H1 H0 : Hp} {a x2 x3 x5 : PV} {B C : List PV} {N : Nat} (hv : VH H1 0 1 [a, .int .i64 s.packs, x2, x3, .int .i64 s.of_, x5]) (hn : 2 ≤ H1.length) (e1 : H0.length = H1.length) (e2 : ∀ j, j < H1.length → j ∉ a.toks → H0[j]? = H1[j]?) (hC : C = iCs l) (hN : N = l.length) (h0 : 0 < N) :
    TW ((H0 ++ [Ob.cells B, Ob.tok, Ob.cells C]).set 1 (.cells [.row (H1.length + 2) 0 11 N, .int .i64 s.packs, x2, x3, .int .i64 s.of_, x5])) s l ∧ H1.length ≤ ((H0 ++ [Ob.cells B, Ob.tok, Ob.cells C]).set 1 (.cells [.row (H1.length + 2) 0 11 N, .int .i64 s.packs, x2, x3, .int .i64 s.of_, x5])).length := by
  subst hC; subst hN
  obtain ⟨hpq, hnd⟩ := List.nodup_cons.1 hv.nd
  obtain ⟨hqn, hnd⟩ := List.nodup_cons.1 hnd
  simp only [PV.toksL, PV.toks, List.nil_append, List.append_nil, List.mem_cons, List.mem_append, not_or] at hpq hqn hnd
  obtain ⟨n1, n2, n3⟩ := List.nodup_append.1 hnd
  have hlt := hv.tlt
  simp only [PV.toksL, PV.toks, List.nil_append, List.append_nil, List.mem_append] at hlt
  generalize hG : (H0 ++ [Ob.cells B, Ob.tok, Ob.cells (iCs l)]).set 1 (.cells [.row (H1.length + 2) 0 11 l.length, .int .i64 s.packs, x2, x3, .int .i64 s.of_, x5]) = G
  have g1 : G[1]? = some (.cells [.row (H1.length + 2) 0 11 l.length, .int .i64 s.packs, x2, x3, .int .i64 s.of_, x5]) := by rw [← hG]; exact List.getElem?_set_self (by simp)
  have gk : ∀ j, j < H1.length → j ≠ 1 → j ∉ a.toks → G[j]? = H1[j]? := fun j hj h1 ha => by rw [← hG, List.getElem?_set_ne (fun e => h1 e.symm), List.getElem?_append_left (by omega)]; exact e2 j hj ha
  have gr : G[H1.length + 2]? = some (.cells (iCs l)) := by rw [← hG, List.getElem?_set_ne (by omega), List.getElem?_append_right (by omega), show H1.length + 2 - H0.length = 2 by omega]; rfl
  have keep : ∀ x, x ∈ [x2, x3, x5] → Img G G x x := fun x hx => by
    have hm : x ∈ [a, .int .i64 s.packs, x2, x3, .int .i64 s.of_, x5] := by
      simp only [List.mem_cons, List.not_mem_nil, or_false] at hx ⊢
      rcases hx with rfl | rfl | rfl <;> simp
    have ht : ∀ k ∈ x.toks, k ∈ x2.toks ∨ k ∈ x3.toks ∨ k ∈ x5.toks := fun k hk => by
      simp only [List.mem_cons, List.not_mem_nil, or_false] at hx
      rcases hx with rfl | rfl | rfl
      · exact .inl hk
      · exact .inr (.inl hk)
      · exact .inr (.inr hk)
    refine (hv.pl x hm).same2 fun k hk => gk k ((hv.pl x hm).lt k hk) (fun e => ?_) (fun ha => ?_)
    · subst e
      rcases ht 1 hk with h | h | h
      · exact hpq.2.2.1 h
      · exact hpq.2.2.2.1 h
      · exact hpq.2.2.2.2 h
    · exact n3 k ha k (by simp only [List.mem_append]; exact ht k hk) rfl
  refine ⟨⟨_, x2, x3, x5, ⟨g1, fun x hx => ?_, ?_, ?_⟩, .inr (.inr ⟨h0, _, rfl, gr⟩)⟩, by rw [← hG]; simp; omega⟩
  · simp only [List.mem_cons, List.not_mem_nil, or_false] at hx
    rcases hx with rfl | rfl | rfl | rfl | rfl | rfl
    · exact .inr (.inr (.inr ⟨_, _, _, _, _, _, rfl, gr, iCs_flat _, rfl, gr⟩))
    · exact .inl ⟨rfl, rfl⟩
    · exact keep _ (by simp)
    · exact keep _ (by simp)
    · exact .inl ⟨rfl, rfl⟩
    · exact keep _ (by simp)
  · simp only [PV.toksL, PV.toks, List.nil_append, List.append_nil, List.cons_append]
    refine List.nodup_cons.2 ⟨?_, List.nodup_cons.2 ⟨?_, List.nodup_cons.2 ⟨fun hm => ?_, n2⟩⟩⟩
    · simp only [List.mem_cons, List.mem_append, not_or]
      exact ⟨by decide, by omega, hpq.2.2⟩
    · simp only [List.mem_cons, List.mem_append, not_or]
      exact ⟨by omega, hqn.2⟩
    · have := hlt _ (.inr (by simpa only [List.mem_append] using hm)); omega
  · obtain ⟨cq, q1, q2⟩ := hv.aq
    exact ⟨cq, by rw [gk 0 (by omega) (by decide) hqn.1]; exact q1, q2⟩
def FitsS (s : Spl) : Prop := (∀ x ∈ s.items, x.mail.rcp.length ≤ 1000000 ∧ x.mail.bd.length ≤ 1000000000) ∧ s.part.length ≤ 1000000
theorem twin_body {s : Spl} {cs6 : List PV} {H1 : Hp} {i : Nat} (hlt : i < s.items.length) (hl : s.items.length ≤ 1000000) (hf : FitsS s) (h : TW H1 s (s.items.take i)) (hn : 2 ≤ H1.length) (k0 : Nat) :
    ∃ H4, evL T k0 q30_1 [.ep cs6 0, .ptr 0 0, .ptr 1 0, .sl .no 11 s.items.length (iCs s.items), .int .i64 s.items.length, .int .i64 i] H1 = some (.nx, [.ep cs6 0, .ptr 0 0, .ptr 1 0, .sl .no 11 s.items.length (iCs s.items), .int .i64 s.items.length, .int .i64 ((i + 1 : Nat) : Int)], H4) ∧ TW H4 s (s.items.take (i + 1)) ∧ H1.length ≤ H4.length := by
  obtain ⟨a, x2, x3, x5, hv, hr⟩ := h
  have f1 : (i : Int) < s.items.length := by omega
  have w1 := evw1 (show i ≤ 1000000 by omega)
  have hg := fm_get (mk := iC) (sz := 11) (fun _ => rfl) hlt
  obtain ⟨e1, e2⟩ := hf.1 _ (List.getElem_mem hlt)
  have hsn : s.items.take (i + 1) = s.items.take i ++ [s.items[i]] := List.take_succ_eq_append_getElem hlt
  have hlen : (s.items.take i).length = i := by simp; omega
  generalize s.items[i] = x at *
  have c41 := T_cloneP (LS.no 3 x.mail.rcp.length (x.mail.rcp.flatMap pC)) e1
  have c42 := T_cloneB (LS.no 1 x.mail.bd.length (x.mail.bd.map b8)) (by omega)
  have hat := hv.at_
  have hrm : (i + 1) * 144 ≤ roomMax := by unfold roomMax; omega
  have hrm1 : 1 * 144 ≤ roomMax := by decide
  have hb : ∀ (Y : Hp) o, (H1 ++ Y).set H1.length o = H1 ++ Y.set 0 o := fun Y o => by rw [List.set_append_right _ _ (Nat.le_refl _), Nat.sub_self]
  have hap : iCs (s.items.take i) ++ iC x = iCs (s.items.take (i + 1)) := by rw [hsn]; simp [iCs]
  have hbx : ∀ o Y, (H1 ++ o :: Y)[H1.length]? = some o := fun o Y => by rw [List.getElem?_append_right (Nat.le_refl _), Nat.sub_self]; rfl
  have h1x : ∀ Y : Hp, (H1 ++ Y)[1]? = H1[1]? := fun Y => List.getElem?_append_left (by omega)
  have hl1 : (s.items.take (i + 1)).length = i + 1 := by rw [hsn]; simp; omega
  have hone := iCs_one (s.items.take i)
  have hnl : (iCs (s.items.take i)).length = i * 11 := by rw [iCs_len, hlen]
  rcases hr.full (iCs_len _) with ⟨h0, rfl⟩ | ⟨h0, k, z, rfl, hz, hk⟩ | ⟨h0, k, rfl, hk⟩
  · have i0 : i = 0 := by omega
    have hs0 : iCs (s.items.take i) = [] := by rw [i0]; rfl
    rw [hs0, List.nil_append] at hap
    refine ⟨_, ?_, TW.step (B := [.int .i64 x.id, .bool x.mail.fr.n, .str x.mail.fr.l, .str x.mail.fr.d, psP x.mail.rcp, .sl (.tok (H1.length + 1)) 1 x.mail.bd.length (x.mail.bd.map b8), .bool x.mail.q, .str x.mail.helo, .int .i64 x.mail.tm, .int .i64 x.state, .int .i64 x.pack]) (N := 1) (C := iC x) hv hn rfl (fun _ _ _ => rfl) hap (by omega) (by decide)⟩
    · simp only [q30_1, q30_0, iC, psP, sl8, evL_op, evL_sel, evL_nx, evL_exit, evL_ret, evL_join, evL_block, evL_cond, evK_some, evJ_nx, evJ_rt, evJ_ex, evB_nx, evB_rt, evB_ex, evC2_bool, evS_and, evS_or, evS_tf, evS_ft, ev_t, ev_s, ev_c, evalOp, bin_add, bin_sub, bin_mul, bin_eql, bin_neq, bin_lss, bin_leq, bin_gtr, bin_geq, sbin_eql, sbin_neq, b8, List.map_cons, List.map_nil, PV.rens, PV.ren, if_true, if_false, Bool.false_eq_true, reduceIte, Nat.reduceAdd, Nat.reduceSub, Nat.reduceMul, Nat.reduceEqDiff, Nat.reduceLeDiff, Int.reduceLE, Int.reduceLT, Int.reduceEq, Int.reduceToNat, Int.reduceAdd, Int.reduceSub, Int.reduceNeg, decide_true, decide_false, Bool.not_true, Bool.not_false, Bool.true_and, Bool.false_and, Bool.and_true, Bool.and_false, Bool.or_true, Bool.true_or, Bool.or_false, Bool.false_or, and_self, and_true, true_and, Nat.le_refl, Nat.zero_add, Nat.mul_one, Nat.one_ne_zero, Nat.zero_le, highP, lowP, Option.map_some, Option.map_none, List.drop_zero, List.take_zero, List.length_cons, List.length_nil, List.nil_append, List.append_nil, List.cons_append, fillP, PV.cells?, PV.one, PV.cleans, PV.clean, PV.of?, List.all_cons, List.all_nil, List.take_succ_cons, List.drop_succ_cons, Bool.and_self, Int.natCast_nonneg, Int.toNat_natCast, Int.toNat_zero, PV.of?, Tk.ren, tailP, evL_loop, or_true, true_or, Nat.zero_lt_one, Nat.sub_zero, List.getElem?_cons_zero, List.getElem?_cons_succ, List.set_cons_zero, List.set_cons_succ, List.take_length, PV.rens, PV.ren, shift, tailR, f1, w1, hg, c41, c42, hat, hb, hbx, h1x, h0, hlen, hs0, hrm1, List.append_assoc, Nat.add_zero, List.length_append]
  · have i0 : i = 0 := by omega
    have hs0 : iCs (s.items.take i) = [] := by rw [i0]; rfl
    rw [hs0, List.nil_append] at hap
    have hkl := (List.getElem?_eq_some_iff.1 hk).1
    have hk1 : k ≠ 1 := fun e => (List.nodup_cons.1 hv.nd).1 (by simp [PV.toksL, PV.toks, e])
    have hkx : ∀ Y : Hp, (H1 ++ Y)[k]? = some .tok := fun Y => (List.getElem?_append_left hkl).trans hk
    have hks : ∀ (Y : Hp) o, (H1 ++ Y).set k o = H1.set k o ++ Y := fun Y o => List.set_append_left _ _ hkl
    have h1k : ∀ (Y : Hp) o, (H1.set k o ++ Y)[1]? = H1[1]? := fun Y o => (List.getElem?_append_left (by simp; omega)).trans (List.getElem?_set_ne hk1)
    refine ⟨_, ?_, TW.step (B := [.int .i64 x.id, .bool x.mail.fr.n, .str x.mail.fr.l, .str x.mail.fr.d, psP x.mail.rcp, .sl (.tok (H1.length + 1)) 1 x.mail.bd.length (x.mail.bd.map b8), .bool x.mail.q, .str x.mail.helo, .int .i64 x.mail.tm, .int .i64 x.state, .int .i64 x.pack]) (N := 1) (C := iC x) (H0 := H1.set k .dead) hv hn (by simp) (fun j _ hj => List.getElem?_set_ne (fun e => hj (by simp [PV.toks, e]))) hap (by omega) (by decide)⟩
    · simp only [q30_1, q30_0, iC, psP, sl8, evL_op, evL_sel, evL_nx, evL_exit, evL_ret, evL_join, evL_block, evL_cond, evK_some, evJ_nx, evJ_rt, evJ_ex, evB_nx, evB_rt, evB_ex, evC2_bool, evS_and, evS_or, evS_tf, evS_ft, ev_t, ev_s, ev_c, evalOp, bin_add, bin_sub, bin_mul, bin_eql, bin_neq, bin_lss, bin_leq, bin_gtr, bin_geq, sbin_eql, sbin_neq, b8, List.map_cons, List.map_nil, PV.rens, PV.ren, if_true, if_false, Bool.false_eq_true, reduceIte, Nat.reduceAdd, Nat.reduceSub, Nat.reduceMul, Nat.reduceEqDiff, Nat.reduceLeDiff, Int.reduceLE, Int.reduceLT, Int.reduceEq, Int.reduceToNat, Int.reduceAdd, Int.reduceSub, Int.reduceNeg, decide_true, decide_false, Bool.not_true, Bool.not_false, Bool.true_and, Bool.false_and, Bool.and_true, Bool.and_false, Bool.or_true, Bool.true_or, Bool.or_false, Bool.false_or, and_self, and_true, true_and, Nat.le_refl, Nat.zero_add, Nat.mul_one, Nat.one_ne_zero, Nat.zero_le, highP, lowP, Option.map_some, Option.map_none, List.drop_zero, List.take_zero, List.length_cons, List.length_nil, List.nil_append, List.append_nil, List.cons_append, fillP, PV.cells?, PV.one, PV.cleans, PV.clean, PV.of?, List.all_cons, List.all_nil, List.take_succ_cons, List.drop_succ_cons, Bool.and_self, Int.natCast_nonneg, Int.toNat_natCast, Int.toNat_zero, PV.of?, Tk.ren, tailP, evL_loop, or_true, true_or, Nat.zero_lt_one, Nat.sub_zero, List.getElem?_cons_zero, List.getElem?_cons_succ, List.set_cons_zero, List.set_cons_succ, List.take_length, PV.rens, PV.ren, shift, tailR, f1, w1, hg, c41, c42, hat, hb, hbx, h1x, hkx, hks, h1k, hz, h0, hlen, hs0, hrm1, List.append_assoc, Nat.add_zero, List.length_append]
  · have hkl := (List.getElem?_eq_some_iff.1 hk).1
    have hk1 : k ≠ 1 := fun e => (List.nodup_cons.1 hv.nd).1 (by simp [PV.toksL, PV.toks, e])
    have hkx : ∀ Y : Hp, (H1 ++ Y)[k]? = some (.cells (iCs (s.items.take i))) := fun Y => (List.getElem?_append_left hkl).trans hk
    have hks : ∀ (Y : Hp) o, (H1 ++ Y).set k o = H1.set k o ++ Y := fun Y o => List.set_append_left _ _ hkl
    have h1k : ∀ (Y : Hp) o, (H1.set k o ++ Y)[1]? = H1[1]? := fun Y o => (List.getElem?_append_left (by simp; omega)).trans (List.getElem?_set_ne hk1)
    refine ⟨_, ?_, TW.step (B := [.int .i64 x.id, .bool x.mail.fr.n, .str x.mail.fr.l, .str x.mail.fr.d, psP x.mail.rcp, .sl (.tok (H1.length + 1)) 1 x.mail.bd.length (x.mail.bd.map b8), .bool x.mail.q, .str x.mail.helo, .int .i64 x.mail.tm, .int .i64 x.state, .int .i64 x.pack]) (N := i + 1) (C := iCs (s.items.take i) ++ iC x) (H0 := H1.set k .dead) hv hn (by simp) (fun j _ hj => List.getElem?_set_ne (fun e => hj (by simp [PV.toks, e]))) hap (by omega) (by omega)⟩
    · rw [hlen] at hat h0
      simp only [q30_1, q30_0, iC, psP, sl8, evL_op, evL_sel, evL_nx, evL_exit, evL_ret, evL_join, evL_block, evL_cond, evK_some, evJ_nx, evJ_rt, evJ_ex, evB_nx, evB_rt, evB_ex, evC2_bool, evS_and, evS_or, evS_tf, evS_ft, ev_t, ev_s, ev_c, evalOp, bin_add, bin_sub, bin_mul, bin_eql, bin_neq, bin_lss, bin_leq, bin_gtr, bin_geq, sbin_eql, sbin_neq, b8, List.map_cons, List.map_nil, PV.rens, PV.ren, if_true, if_false, Bool.false_eq_true, reduceIte, Nat.reduceAdd, Nat.reduceSub, Nat.reduceMul, Nat.reduceEqDiff, Nat.reduceLeDiff, Int.reduceLE, Int.reduceLT, Int.reduceEq, Int.reduceToNat, Int.reduceAdd, Int.reduceSub, Int.reduceNeg, decide_true, decide_false, Bool.not_true, Bool.not_false, Bool.true_and, Bool.false_and, Bool.and_true, Bool.and_false, Bool.or_true, Bool.true_or, Bool.or_false, Bool.false_or, and_self, and_true, true_and, Nat.le_refl, Nat.zero_add, Nat.mul_one, Nat.one_ne_zero, Nat.zero_le, highP, lowP, Option.map_some, Option.map_none, List.drop_zero, List.take_zero, List.length_cons, List.length_nil, List.nil_append, List.append_nil, List.cons_append, fillP, PV.cells?, PV.one, PV.cleans, PV.clean, PV.of?, List.all_cons, List.all_nil, List.take_succ_cons, List.drop_succ_cons, Bool.and_self, Int.natCast_nonneg, Int.toNat_natCast, Int.toNat_zero, PV.of?, Tk.ren, tailP, evL_loop, or_true, true_or, Nat.zero_lt_one, Nat.sub_zero, List.getElem?_cons_zero, List.getElem?_cons_succ, List.set_cons_zero, List.set_cons_succ, List.take_length, PV.rens, PV.ren, shift, tailR, f1, w1, hg, c41, c42, hat, hb, hbx, h1x, hkx, hks, h1k, hlen, hone, hnl, hrm, List.append_assoc, Nat.add_zero, List.length_append]
end Go.Proofs.YtnljpfjoboafoaaDoor.Tab

namespace Go.Proofs.YtnljpfjoboafoaaDoor.Tab
set_option linter.all false
open Go Go.RowKit Go.Proofs.YtnljpfjoboafoaaDoor.Ev
def SplR (s : Spl) (cs : List PV) : Prop := ∃ a b c d, cs = [a, .int .i64 s.packs, b, c, .int .i64 s.of_, d] ∧ LS 11 s.items.length (iCs s.items) a ∧ LS 1 s.sent.length (nCs s.sent) b ∧ LS 1 s.part.length (s.part.map b8) c ∧ LS 1 s.done.length (nCs s.done) d
theorem SplR.box {s : Spl} {cs : List PV} (h : SplR s cs) : PV.cleans cs = some cs ∧ cs.all PV.one = true ∧ PV.rens (fun _ => none) cs = cs := by
  obtain ⟨a, b, c, d, rfl, ⟨ta, za, rfl, ha, _⟩, ⟨tb, zb, rfl, hb, _⟩, ⟨tc, zc, rfl, hc, _⟩, ⟨td, zd, rfl, hd, _⟩⟩ := h
  rcases ha with rfl | ⟨rfl, _⟩ <;> rcases hb with rfl | ⟨rfl, _⟩ <;> rcases hc with rfl | ⟨rfl, _⟩ <;> rcases hd with rfl | ⟨rfl, _⟩ <;> exact ⟨rfl, rfl, rfl⟩
/-- The rows of a spool, wherever it lies. -/
structure SP (H : Hp) (a b c d : PV) (s : Spl) : Prop where
  ra : RowAt H 11 a (iCs s.items) s.items.length
  rb : RowAt H 1 b (nCs s.sent) s.sent.length
  rc : TokAt H c s.part
  rd : RowNN H 1 d (nCs s.done) s.done.length
  nd : (a.toks ++ (b.toks ++ (c.toks ++ d.toks))).Nodup
theorem SP.move {H H' : Hp} {a b c d : PV} {s : Spl} {ρ : Nat → Option Nat} (h : SP H a b c d s) (hinj : ∀ k1 k2 x, ρ k1 = some x → ρ k2 = some x → k1 = k2)
    (tok : ∀ k ∈ a.toks ++ (b.toks ++ (c.toks ++ d.toks)), H[k]? = some .tok → ∃ k', ρ k = some k' ∧ H'[k']? = some .tok)
    (cel : ∀ k ∈ a.toks ++ (b.toks ++ (c.toks ++ d.toks)), ∀ cs : List PV, cs.all flat = true → H[k]? = some (.cells cs) → ∃ k', ρ k = some k' ∧ H'[k']? = some (.cells cs)) : SP H' (a.ren ρ) (b.ren ρ) (c.ren ρ) (d.ren ρ) s := by
  have row : ∀ {sz n : Nat} {x : PV} {cs : List PV}, RowAt H sz x cs n → cs.all flat = true → (∀ k ∈ x.toks, k ∈ a.toks ++ (b.toks ++ (c.toks ++ d.toks))) → RowAt H' sz (x.ren ρ) cs n := fun {sz n x cs} hr hf hh => by
    rcases hr with ⟨h0, rfl⟩ | ⟨h0, k, z, rfl, hz, hk⟩ | ⟨h0, k, rfl, hk⟩
    · exact .inl ⟨h0, rfl⟩
    · obtain ⟨k', h1, h2⟩ := tok k (hh k (by simp [PV.toks])) hk
      exact .inr (.inl ⟨h0, k', z, by simp only [PV.ren, Tk.ren, h1], hz, h2⟩)
    · obtain ⟨k', h1, h2⟩ := cel k (hh k (by simp [PV.toks])) cs hf hk
      exact .inr (.inr ⟨h0, k', by simp only [PV.ren, h1], h2⟩)
  have ma : ∀ k ∈ a.toks, k ∈ a.toks ++ (b.toks ++ (c.toks ++ d.toks)) := fun k hk => by simp [hk]
  have mb : ∀ k ∈ b.toks, k ∈ a.toks ++ (b.toks ++ (c.toks ++ d.toks)) := fun k hk => by simp [hk]
  have mc : ∀ k ∈ c.toks, k ∈ a.toks ++ (b.toks ++ (c.toks ++ d.toks)) := fun k hk => by simp [hk]
  have md : ∀ k ∈ d.toks, k ∈ a.toks ++ (b.toks ++ (c.toks ++ d.toks)) := fun k hk => by simp [hk]
  refine ⟨row h.ra (iCs_flat _) ma, row h.rb (ints_flat _) mb, ?_, (row h.rd.at_ (ints_flat _) md).nn fun z m ds e => ?_, ?_⟩
  · rcases h.rc with ⟨h0, rfl⟩ | ⟨k, z, rfl, hz, hk⟩
    · exact .inl ⟨h0, rfl⟩
    · obtain ⟨k', h1, h2⟩ := tok k (mc k (by simp [PV.toks])) hk
      exact .inr ⟨k', z, by simp only [PV.ren, Tk.ren, h1], hz, h2⟩
  · rcases h.rd with ⟨h0, k, z, rfl, hz, hk⟩ | ⟨h0, k, rfl, hk⟩
    · obtain ⟨k', h1, _⟩ := tok k (md k (by simp [PV.toks])) hk
      simp only [PV.ren, Tk.ren, h1] at e
      cases e
    · obtain ⟨k', h1, _⟩ := cel k (md k (by simp [PV.toks])) _ (ints_flat _) hk
      simp only [PV.ren, h1] at e
      cases e
  · have := nodup_fm hinj h.nd
    simpa only [List.filterMap_append, ← ren_toks] using this
theorem rowV_ren (m n : Nat) : (rowV 0 1 n).ren (fun j => some (m + j)) = rowV m 1 n := by
  unfold rowV
  split <;> rfl
theorem rowV_toks (k sz n : Nat) : (rowV k sz n).toks = [k] := by
  unfold rowV
  split <;> rfl
theorem shift_rowO (m n : Nat) (l : List Int) : shift m [rowO n (l.map fun x => .int .i64 x)] = [rowO n (l.map fun x => .int .i64 x)] := by
  unfold rowO shift
  split
  · rfl
  · simp only [List.map_cons, List.map_nil, rens_flat _ (ints_flat l)]
theorem rowV_at {H : Hp} {k n : Nat} {cs : List PV} (h : H[k]? = some (rowO n cs)) : RowNN H 1 (rowV k 1 n) cs n := by
  unfold rowO at h
  unfold rowV
  by_cases h0 : n = 0
  · rw [if_pos h0] at h ⊢
    exact .inl ⟨h0, k, 1, rfl, .inl rfl, h⟩
  · rw [if_neg h0] at h ⊢
    exact .inr ⟨by omega, k, rfl, h⟩
theorem twin_loop {s : Spl} {cs6 : List PV} {a x2 x3 x5 : PV} {H : Hp} (hl : s.items.length ≤ 1000000) (hf : FitsS s) (ha : LS 11 s.items.length (iCs s.items) a) (h : VH H 0 1 [.sl .nil 0 0 [], .int .i64 s.packs, x2, x3, .int .i64 s.of_, x5]) (hn : H.length = 2) (k0 kk : Nat) (hk : s.items.length < kk) :
    ∃ H', loopL 2 (evL T k0 q30_1) kk [.ep cs6 0, .ptr 0 0, .ptr 1 0, a, .int .i64 s.items.length, .int .i64 0] H = some (.ex 0, [.ep cs6 0, .ptr 0 0, .ptr 1 0], H') ∧ TW H' s s.items ∧ 2 ≤ H'.length := by
  have hr0 : RowAt H 11 (.sl .nil 0 0 []) (iCs []) ([] : List Itm).length := .inl ⟨rfl, rfl⟩
  by_cases h0 : s.items.length = 0
  · have hi0 : s.items = [] := List.eq_nil_of_length_eq_zero h0
    obtain ⟨ta, za, rfl, hta, hza⟩ := ha
    obtain ⟨kk', rfl⟩ : ∃ k', kk = k' + 1 := ⟨kk - 1, by omega⟩
    obtain ⟨env', H', cs', h1, h2, h3, h4, h5, h6⟩ := h.head (n := 2) (env := [.ep cs6 0, .ptr 0 0, .ptr 1 0, .sl ta za s.items.length (iCs s.items), .int .i64 s.items.length, .int .i64 0]) (by omega) (by omega) (by omega) (fun x hx => by
      simp only [List.mem_cons, List.not_mem_nil, or_false] at hx
      rcases hx with rfl | rfl | rfl | rfl | rfl | rfl
      · exact .inl rfl
      · exact .inr (.inr (.inl rfl))
      · exact .inr (.inl rfl)
      · rcases hta with rfl | ⟨rfl, _⟩
        · exact .inl rfl
        · exact .inr (.inr (.inr ⟨_, _, _, rfl⟩))
      · exact .inl rfl
      · exact .inl rfl)
    have hT := TW.img (l := []) hr0 h2 h3
    match env', h5 with
    | [e0, e1, e2, e3, e4, e5], _ =>
      have g0 := (h6 0 _ rfl).1 (fun _ _ _ e => by cases e)
      have g1 := (h6 1 _ rfl).1 (fun _ _ _ e => by cases e)
      have g2 := (h6 2 _ rfl).1 (fun _ _ _ e => by cases e)
      have g4 := (h6 4 _ rfl).1 (fun _ _ _ e => by cases e)
      have g5 := (h6 5 _ rfl).1 (fun _ _ _ e => by cases e)
      simp only [List.getElem?_cons_zero, List.getElem?_cons_succ, Option.some.injEq] at g0 g1 g2 g4 g5
      subst g0; subst g1; subst g2; subst g4; subst g5
      have f1 : ¬ (0 : Int) < s.items.length := by omega
      refine ⟨H', ?_, by rw [hi0]; exact hT, h4⟩
      rw [loopL_succ, h1]
      dsimp only
      simp only [q30_1, evL_op, evL_sel, evL_nx, evL_exit, evL_ret, evL_join, evL_block, evL_cond, evK_some, evJ_nx, evJ_rt, evJ_ex, evB_nx, evB_rt, evB_ex, evC2_bool, evS_and, evS_or, evS_tf, evS_ft, ev_t, ev_s, ev_c, evalOp, bin_add, bin_sub, bin_mul, bin_eql, bin_neq, bin_lss, bin_leq, bin_gtr, bin_geq, sbin_eql, sbin_neq, b8, List.map_cons, List.map_nil, PV.rens, PV.ren, if_true, if_false, Bool.false_eq_true, reduceIte, Nat.reduceAdd, Nat.reduceSub, Nat.reduceMul, Nat.reduceEqDiff, Nat.reduceLeDiff, Int.reduceLE, Int.reduceLT, Int.reduceEq, Int.reduceToNat, Int.reduceAdd, Int.reduceSub, Int.reduceNeg, decide_true, decide_false, Bool.not_true, Bool.not_false, Bool.true_and, Bool.false_and, Bool.and_true, Bool.and_false, Bool.or_true, Bool.true_or, Bool.or_false, Bool.false_or, and_self, and_true, true_and, Nat.le_refl, Nat.zero_add, Nat.mul_one, Nat.one_ne_zero, Nat.zero_le, highP, lowP, Option.map_some, Option.map_none, List.drop_zero, List.take_zero, List.length_cons, List.length_nil, List.nil_append, List.append_nil, List.cons_append, fillP, PV.cells?, PV.one, PV.cleans, PV.clean, PV.of?, List.all_cons, List.all_nil, List.take_succ_cons, List.drop_succ_cons, Bool.and_self, Int.natCast_nonneg, Int.toNat_natCast, Int.toNat_zero, PV.of?, Tk.ren, tailP, evL_loop, or_true, true_or, Nat.zero_lt_one, Nat.sub_zero, List.getElem?_cons_zero, List.getElem?_cons_succ, List.set_cons_zero, List.set_cons_succ, List.take_length, f1]
  · obtain ⟨ta, za, rfl, hta, hza⟩ := ha
    obtain rfl : za = 11 := hza.resolve_right h0
    obtain rfl : ta = .no := hta.resolve_right (fun e => h0 e.2)
    have he : ∀ (z : Nat), ∀ x ∈ [PV.ep cs6 0, .ptr 0 0, .ptr 1 0, .sl .no 11 s.items.length (iCs s.items), .int .i64 s.items.length, .int .i64 z], flat x = true ∨ x = .ptr 1 0 ∨ x = .ptr 0 0 := fun z x hx => by
      simp only [List.mem_cons, List.not_mem_nil, or_false] at hx
      rcases hx with rfl | rfl | rfl | rfl | rfl | rfl
      · exact .inl rfl
      · exact .inr (.inr rfl)
      · exact .inr (.inl rfl)
      · exact .inl rfl
      · exact .inl rfl
      · exact .inl rfl
    obtain ⟨H0, cs0, hh0, hv0, hi0, hl0⟩ := h.headE (n := 2) (by omega) (by omega) (by omega) (he 0)
    have hT0 := TW.img (l := []) hr0 hv0 hi0
    obtain ⟨r, hr, H', rfl, hT, hL⟩ := loop_post (n := 2) (body := evL T k0 q30_1) (σ := Nat × Hp) (fun σ => [.ep cs6 0, .ptr 0 0, .ptr 1 0, .sl .no 11 s.items.length (iCs s.items), .int .i64 s.items.length, .int .i64 σ.1]) (fun σ => σ.2) (fun σ => s.items.length - σ.1)
      (fun σ => σ.1 ≤ s.items.length ∧ TW σ.2 s (s.items.take σ.1) ∧ 2 ≤ σ.2.length)
      (fun r => ∃ H', r = (.ex 0, [.ep cs6 0, .ptr 0 0, .ptr 1 0], H') ∧ TW H' s s.items ∧ 2 ≤ H'.length) (by
      rintro ⟨i, H1⟩ ⟨hi, h1, hl1⟩
      dsimp only at hi h1 hl1 ⊢
      rcases Nat.lt_or_ge i s.items.length with hlt | hge
      · obtain ⟨H4, hb, ⟨a4, y2, y3, y5, hv4, hr4⟩, hl4⟩ := twin_body (cs6 := cs6) hlt hl hf h1 hl1 k0
        obtain ⟨H5, cs5, g1, g2, g3, g4⟩ := hv4.headE (n := 2) (by omega) (by omega) (by omega) (he (i + 1))
        exact .inr ⟨(i + 1, H5), _, H4, hb, g1, ⟨hlt, TW.img hr4 g2 g3, g4⟩, by dsimp only; omega⟩
      · obtain rfl : i = s.items.length := by omega
        have f1 : ¬ (s.items.length : Int) < s.items.length := by omega
        rw [List.take_length] at h1
        refine .inl ⟨(.ex 0, [.ep cs6 0, .ptr 0 0, .ptr 1 0], H1), ?_, by simp, H1, rfl, h1, hl1⟩
        simp only [q30_1, evL_op, evL_sel, evL_nx, evL_exit, evL_ret, evL_join, evL_block, evL_cond, evK_some, evJ_nx, evJ_rt, evJ_ex, evB_nx, evB_rt, evB_ex, evC2_bool, evS_and, evS_or, evS_tf, evS_ft, ev_t, ev_s, ev_c, evalOp, bin_add, bin_sub, bin_mul, bin_eql, bin_neq, bin_lss, bin_leq, bin_gtr, bin_geq, sbin_eql, sbin_neq, b8, List.map_cons, List.map_nil, PV.rens, PV.ren, if_true, if_false, Bool.false_eq_true, reduceIte, Nat.reduceAdd, Nat.reduceSub, Nat.reduceMul, Nat.reduceEqDiff, Nat.reduceLeDiff, Int.reduceLE, Int.reduceLT, Int.reduceEq, Int.reduceToNat, Int.reduceAdd, Int.reduceSub, Int.reduceNeg, decide_true, decide_false, Bool.not_true, Bool.not_false, Bool.true_and, Bool.false_and, Bool.and_true, Bool.and_false, Bool.or_true, Bool.true_or, Bool.or_false, Bool.false_or, and_self, and_true, true_and, Nat.le_refl, Nat.zero_add, Nat.mul_one, Nat.one_ne_zero, Nat.zero_le, highP, lowP, Option.map_some, Option.map_none, List.drop_zero, List.take_zero, List.length_cons, List.length_nil, List.nil_append, List.append_nil, List.cons_append, fillP, PV.cells?, PV.one, PV.cleans, PV.clean, PV.of?, List.all_cons, List.all_nil, List.take_succ_cons, List.drop_succ_cons, Bool.and_self, Int.natCast_nonneg, Int.toNat_natCast, Int.toNat_zero, PV.of?, Tk.ren, tailP, evL_loop, or_true, true_or, Nat.zero_lt_one, Nat.sub_zero, List.getElem?_cons_zero, List.getElem?_cons_succ, List.set_cons_zero, List.set_cons_succ, List.take_length, f1]) kk (0, H0) _ H hh0 ⟨Nat.zero_le _, by simpa using hT0, hl0⟩ (by dsimp only; omega)
    exact ⟨H', hr, hT, hL⟩
end Go.Proofs.YtnljpfjoboafoaaDoor.Tab

namespace Go.Proofs.YtnljpfjoboafoaaDoor.Tab
set_option linter.all false
open Go Go.RowKit Go.Proofs.YtnljpfjoboafoaaDoor.Ev
theorem LS.img {sz n : Nat} {cs : List PV} {x : PV} (h : LS sz n cs x) (H : Hp) : Img H H x x := by
  obtain ⟨t, z, rfl, ht, _⟩ := h
  rcases ht with rfl | ⟨rfl, _⟩
  · exact .inl ⟨rfl, rfl⟩
  · exact .inr (.inl ⟨_, _, _, rfl, .inl rfl⟩)
theorem LS.toks {sz n : Nat} {cs : List PV} {x : PV} (h : LS sz n cs x) : x.toks = [] := by
  obtain ⟨t, z, rfl, ht, _⟩ := h
  rcases ht with rfl | ⟨rfl, _⟩ <;> rfl
theorem T_Twin {s : Spl} {cs : List PV} (h : SplR s cs) (hf : FitsS s) (hk : Roomy s) : ∃ a b c d H', T 30 [.agg cs] [] = some (.agg (cellS a b c d s), H') ∧ SP H' a b c d s := by
  obtain ⟨x1, x2, _⟩ := h.box
  obtain ⟨a, b, c, d, rfl, ha, hb, hc, hd⟩ := h
  have c43b := T_cloneI hb hk.sl
  have c43d := T_cloneI hd hk.dl
  have c42 := T_cloneB hc (by have := hk.pl; omega)
  have hv : VH [.cells [.sl .nil 0 0 [], .int .i64 0, .sl .nil 0 0 [], .sl .nil 0 0 [], .int .i64 0, .sl .nil 0 0 []], .cells [.sl .nil 0 0 [], .int .i64 s.packs, b, c, .int .i64 s.of_, d]] 0 1 [.sl .nil 0 0 [], .int .i64 s.packs, b, c, .int .i64 s.of_, d] := by
    refine ⟨rfl, fun x hx => ?_, ?_, _, rfl, rfl⟩
    · simp only [List.mem_cons, List.not_mem_nil, or_false] at hx
      rcases hx with rfl | rfl | rfl | rfl | rfl | rfl
      · exact .inr (.inl ⟨_, _, _, rfl, .inl rfl⟩)
      · exact .inl ⟨rfl, rfl⟩
      · exact hb.img _
      · exact hc.img _
      · exact .inl ⟨rfl, rfl⟩
      · exact hd.img _
    · simp only [PV.toksL, PV.toks, hb.toks, hc.toks, hd.toks, List.append_nil]
      decide
  obtain ⟨H', lp, ⟨a', y2, y3, y5, hv', hr'⟩, hl'⟩ := twin_loop (cs6 := [a, .int .i64 s.packs, b, c, .int .i64 s.of_, d]) hk.il hf ha hv rfl (s.items.length + 1) (s.items.length + 1) (by omega)
  obtain ⟨ta, za, rfl, hta, hza⟩ := ha
  obtain ⟨tb, zb, rfl, htb, hzb⟩ := hb
  obtain ⟨tc, zc, rfl, htc, hzc⟩ := hc
  obtain ⟨td, zd, rfl, htd, hzd⟩ := hd
  have rb : Tk.ren (fun _ => none) tb = tb := by rcases htb with rfl | ⟨rfl, _⟩ <;> rfl
  have rc : Tk.ren (fun _ => none) tc = tc := by rcases htc with rfl | ⟨rfl, _⟩ <;> rfl
  have rd : Tk.ren (fun _ => none) td = td := by rcases htd with rfl | ⟨rfl, _⟩ <;> rfl
  simp only [Tk.ren] at rb rc rd
  have hat := hv'.at_
  obtain ⟨cq, hq, hql⟩ := hv'.aq
  have hle6 : 6 ≤ cq.length := by omega
  have hd6 : cq.drop 6 = [] := List.drop_eq_nil_of_le (by omega)
  have h1x : ∀ Y : Hp, (H' ++ Y)[1]? = H'[1]? := fun Y => List.getElem?_append_left (by omega)
  have hs1 : ∀ (Y : Hp) o, ((H' ++ Y).set 1 o)[1]? = some o := fun Y o => List.getElem?_set_self (by simp; omega)
  have hs0 : ∀ (Y : Hp) o, ((H' ++ Y).set 1 o)[0]? = some (.cells cq) := fun Y o => (List.getElem?_set_ne (by decide)).trans ((List.getElem?_append_left (by omega)).trans hq)
  have hs2 : ∀ (Y : Hp) o o2, (((H' ++ Y).set 1 o).set 0 o2)[0]? = some o2 := fun Y o o2 => List.getElem?_set_self (by simp; omega)
  obtain ⟨CS, hCS⟩ : ∃ CS, CS = cellS a' (rowV H'.length 1 s.sent.length) (.sl (.tok (H'.length + 1)) 1 s.part.length (s.part.map b8)) (rowV (H'.length + 2) 1 s.done.length) s := ⟨_, rfl⟩
  obtain ⟨Hf, hHf⟩ : ∃ Hf : Hp, Hf = ((H' ++ [rowO s.sent.length (nCs s.sent), Ob.tok, rowO s.done.length (nCs s.done)]).set 1 (.cells CS)).set 0 (.cells CS) := ⟨_, rfl⟩
  have he : evL T (s.items.length + 1) q30 [.agg [.sl ta za s.items.length (iCs s.items), .int .i64 s.packs, .sl tb zb s.sent.length (nCs s.sent), .sl tc zc s.part.length (s.part.map b8), .int .i64 s.of_, .sl td zd s.done.length (nCs s.done)]] [] = some (.rt, [.ptr 0 0], Hf) := by
    rw [hHf, hCS]
    have m1 : s.sent.length = 0 ∨ s.sent.length ≠ 0 := Classical.em _
    have m3 : s.done.length = 0 ∨ s.done.length ≠ 0 := Classical.em _
    clear htb hzb htd hzd htc hzc
    generalize s.sent.length = nb at *
    generalize s.done.length = nd at *
    unfold q30
    rw [evL_op, bx (ev_t _) x1 x2, evK_some]
    rcases hr' with ⟨_, rfl⟩ | ⟨_, k, z, rfl, hz, hkk⟩ | ⟨_, k, rfl, hkk⟩ <;> rcases m1 with rfl | m1 <;> rcases m3 with rfl | m3 <;>
    · first | (have h_ := m1) | (have m1 : True := trivial)
      first | (have h_ := m3) | (have m3 : True := trivial)
      simp only [evL_op, evL_sel, evL_nx, evL_exit, evL_ret, evL_join, evL_block, evL_cond, evK_some, evJ_nx, evJ_rt, evJ_ex, evB_nx, evB_rt, evB_ex, evC2_bool, evS_and, evS_or, evS_tf, evS_ft, ev_t, ev_s, ev_c, evalOp, bin_add, bin_sub, bin_mul, bin_eql, bin_neq, bin_lss, bin_leq, bin_gtr, bin_geq, sbin_eql, sbin_neq, b8, List.map_cons, List.map_nil, PV.rens, PV.ren, if_true, if_false, Bool.false_eq_true, reduceIte, Nat.reduceAdd, Nat.reduceSub, Nat.reduceMul, Nat.reduceEqDiff, Nat.reduceLeDiff, Int.reduceLE, Int.reduceLT, Int.reduceEq, Int.reduceToNat, Int.reduceAdd, Int.reduceSub, Int.reduceNeg, decide_true, decide_false, Bool.not_true, Bool.not_false, Bool.true_and, Bool.false_and, Bool.and_true, Bool.and_false, Bool.or_true, Bool.true_or, Bool.or_false, Bool.false_or, and_self, and_true, true_and, Nat.le_refl, Nat.zero_add, Nat.mul_one, Nat.one_ne_zero, Nat.zero_le, highP, lowP, Option.map_some, Option.map_none, List.drop_zero, List.take_zero, List.length_cons, List.length_nil, List.nil_append, List.append_nil, List.cons_append, fillP, PV.cells?, PV.one, PV.cleans, PV.clean, PV.of?, List.all_cons, List.all_nil, List.take_succ_cons, List.drop_succ_cons, Bool.and_self, Int.natCast_nonneg, Int.toNat_natCast, Int.toNat_zero, PV.of?, Tk.ren, tailP, evL_loop, or_true, true_or, Nat.zero_lt_one, Nat.sub_zero, List.getElem?_cons_zero, List.getElem?_cons_succ, List.set_cons_zero, List.set_cons_succ, List.take_length]
      rw [lp]
      simp only [q30_2, evL_op, evL_sel, evL_nx, evL_exit, evL_ret, evL_join, evL_block, evL_cond, evK_some, evJ_nx, evJ_rt, evJ_ex, evB_nx, evB_rt, evB_ex, evC2_bool, evS_and, evS_or, evS_tf, evS_ft, ev_t, ev_s, ev_c, evalOp, bin_add, bin_sub, bin_mul, bin_eql, bin_neq, bin_lss, bin_leq, bin_gtr, bin_geq, sbin_eql, sbin_neq, b8, List.map_cons, List.map_nil, PV.rens, PV.ren, if_true, if_false, Bool.false_eq_true, reduceIte, Nat.reduceAdd, Nat.reduceSub, Nat.reduceMul, Nat.reduceEqDiff, Nat.reduceLeDiff, Int.reduceLE, Int.reduceLT, Int.reduceEq, Int.reduceToNat, Int.reduceAdd, Int.reduceSub, Int.reduceNeg, decide_true, decide_false, Bool.not_true, Bool.not_false, Bool.true_and, Bool.false_and, Bool.and_true, Bool.and_false, Bool.or_true, Bool.true_or, Bool.or_false, Bool.false_or, and_self, and_true, true_and, Nat.le_refl, Nat.zero_add, Nat.mul_one, Nat.one_ne_zero, Nat.zero_le, highP, lowP, Option.map_some, Option.map_none, List.drop_zero, List.take_zero, List.length_cons, List.length_nil, List.nil_append, List.append_nil, List.cons_append, fillP, PV.cells?, PV.one, PV.cleans, PV.clean, PV.of?, List.all_cons, List.all_nil, List.take_succ_cons, List.drop_succ_cons, Bool.and_self, Int.natCast_nonneg, Int.toNat_natCast, Int.toNat_zero, PV.of?, Tk.ren, tailP, evL_loop, or_true, true_or, Nat.zero_lt_one, Nat.sub_zero, List.getElem?_cons_zero, List.getElem?_cons_succ, List.set_cons_zero, List.set_cons_succ, List.take_length, PV.rens, PV.ren, rb, rc, rd, c43b, c43d, c42, rowV, m1, m3, eq_self, shift_rowO, show ∀ m, shift m [Ob.tok] = [Ob.tok] from fun _ => rfl, List.append_assoc, List.length_append, Nat.add_zero, h1x, hat, hs1, hs0, hle6, hd6, List.set_set, cellS]
  have f0 : Hf[0]? = some (.cells CS) := by rw [hHf]; exact hs2 _ _ _
  have fk : ∀ k, k < H'.length → k ≠ 0 → k ≠ 1 → Hf[k]? = H'[k]? := fun k h1 h2 h3 => by rw [hHf, List.getElem?_set_ne (fun e => h2 e.symm), List.getElem?_set_ne (fun e => h3 e.symm), List.getElem?_append_left h1]
  have fm : ∀ j : Nat, j < 3 → Hf[H'.length + j]? = ([rowO s.sent.length (nCs s.sent), Ob.tok, rowO s.done.length (nCs s.done)] : Hp)[j]? := fun j hj => by rw [hHf, List.getElem?_set_ne (by omega), List.getElem?_set_ne (by omega), List.getElem?_append_right (by omega), Nat.add_sub_cancel_left]
  have hSP : SP Hf a' (rowV H'.length 1 s.sent.length) (.sl (.tok (H'.length + 1)) 1 s.part.length (s.part.map b8)) (rowV (H'.length + 2) 1 s.done.length) s := by
    obtain ⟨n1, n2⟩ := List.nodup_cons.1 hv'.nd
    obtain ⟨n3, n4⟩ := List.nodup_cons.1 n2
    simp only [PV.toksL, List.mem_cons, List.mem_append, not_or] at n1 n3 n4
    have hlt := hr'.lt
    refine ⟨hr'.mono fun k hm => fk k (hlt k hm) (fun e => n3.1 (e ▸ hm)) (fun e => n1.2.1 (e ▸ hm)), (rowV_at (fm 0 (by decide))).at_, .inr ⟨_, 1, rfl, .inl rfl, fm 1 (by decide)⟩, rowV_at (fm 2 (by decide)), ?_⟩
    rw [rowV_toks, rowV_toks]
    have na := (List.nodup_append.1 n4).1
    refine List.nodup_append.2 ⟨na, by simp [PV.toks], fun x hx y hy e => ?_⟩
    subst e
    have := hlt x hx
    simp [PV.toks] at hy
    omega
  have hcl : CS.length = 6 := by rw [hCS]; rfl
  have hev : evR [.ptr 0 0] Hf l30.res = some [.agg CS] := by
    show evR [.ptr 0 0] Hf [.cell 0 true 6] = _
    simp only [evR, List.getD, List.getElem?_cons_zero, Option.getD_some, f0, List.drop_zero, List.take_of_length_le (Nat.le_of_eq hcl), PV.of?, hcl, if_true]
  have key : T 30 [.agg [.sl ta za s.items.length (iCs s.items), .int .i64 s.packs, .sl tb zb s.sent.length (nCs s.sent), .sl tc zc s.part.length (s.part.map b8), .int .i64 s.of_, .sl td zd s.done.length (nCs s.done)]] [] = some (.agg (PV.rens (renOf 0 Hf (used 0 [.agg CS] Hf)) CS), (compact 0 [.agg CS] Hf).2) :=
    evT_of (F := l30) (l := [.agg CS]) rfl rfl rfl he hev rfl
  have tok : ∀ k, Held 0 [.agg CS] Hf k → Hf[k]? = some .tok → ∃ k', renOf 0 Hf (used 0 [.agg CS] Hf) k = some k' ∧ (compact 0 [.agg CS] Hf).2[k']? = some .tok := fun k hh ht => (cpt (Nat.zero_le _) (.inl hh)).1 ht hh
  have cel : ∀ k cs, Held 0 [.agg CS] Hf k → Hf[k]? = some (.cells cs) → ∃ k', renOf 0 Hf (used 0 [.agg CS] Hf) k = some k' ∧ (compact 0 [.agg CS] Hf).2[k']? = some (.cells (PV.rens (renOf 0 Hf (used 0 [.agg CS] Hf)) cs)) := fun k cs hh ht => by
    obtain ⟨k', h1, h2, _⟩ := (cpt (Nat.zero_le _) (.inl hh)).2 cs ht
    exact ⟨k', h1, h2⟩
  have hinj : ∀ k1 k2 x, renOf 0 Hf (used 0 [.agg CS] Hf) k1 = some x → renOf 0 Hf (used 0 [.agg CS] Hf) k2 = some x → k1 = k2 := fun k1 k2 x h1 h2 => ren_inj h1 h2
  have held : ∀ k ∈ a'.toks ++ ((rowV H'.length 1 s.sent.length).toks ++ ((PV.sl (.tok (H'.length + 1)) 1 s.part.length (s.part.map b8)).toks ++ (rowV (H'.length + 2) 1 s.done.length).toks)), Held 0 [.agg CS] Hf k := fun k hm => .inl (by
    simp only [PV.toksL, List.append_nil]
    show k ∈ PV.toksL CS
    rw [hCS, cellS_toks]
    exact hm)
  generalize (compact 0 [.agg CS] Hf).2 = H'' at *
  generalize renOf 0 Hf (used 0 [.agg CS] Hf) = ρ at *
  have hre : PV.rens ρ CS = cellS (a'.ren ρ) ((rowV H'.length 1 s.sent.length).ren ρ) ((PV.sl (.tok (H'.length + 1)) 1 s.part.length (s.part.map b8)).ren ρ) ((rowV (H'.length + 2) 1 s.done.length).ren ρ) s := by rw [hCS]; rfl
  refine ⟨a'.ren ρ, (rowV H'.length 1 s.sent.length).ren ρ, (PV.sl (.tok (H'.length + 1)) 1 s.part.length (s.part.map b8)).ren ρ, (rowV (H'.length + 2) 1 s.done.length).ren ρ, H'', by rw [← hre]; exact key, hSP.move hinj (fun k hm ht => tok k (held k hm) ht) (fun k hm cs hcs ht => ?_)⟩
  obtain ⟨k', g1, g2⟩ := cel k cs (held k hm) ht
  rw [rens_flat ρ hcs] at g2
  exact ⟨k', g1, g2⟩
end Go.Proofs.YtnljpfjoboafoaaDoor.Tab

namespace Go.Proofs.YtnljpfjoboafoaaDoor.Tab
set_option linter.all false
open Go Go.RowKit Go.Proofs.YtnljpfjoboafoaaDoor.Ev
def noS : Spl := ⟨[], 0, [], [], 0, []⟩
/-- A slice of which a list is left when its right is let go. -/
def LSt (sz n : Nat) (cs : List PV) (x : PV) : Prop := ∃ t z, x = .sl t z n cs ∧ (t = .no ∨ (t = .nil ∧ n = 0) ∨ ∃ k, t = .tok k) ∧ (z = sz ∨ n = 0)
theorem LSt.ren {sz n : Nat} {cs : List PV} {x : PV} (h : LSt sz n cs x) (ρ : Nat → Option Nat) : LSt sz n cs (x.ren ρ) := by
  obtain ⟨t, z, rfl, ht, hz⟩ := h
  rcases ht with rfl | ⟨rfl, h0⟩ | ⟨k, rfl⟩
  · exact ⟨.no, z, rfl, .inl rfl, hz⟩
  · exact ⟨.nil, z, rfl, .inr (.inl ⟨rfl, h0⟩), hz⟩
  · cases e : ρ k with
    | none => exact ⟨.no, z, by simp only [PV.ren, Tk.ren, e], .inl rfl, hz⟩
    | some k' => exact ⟨.tok k', z, by simp only [PV.ren, Tk.ren, e], .inr (.inr ⟨k', rfl⟩), hz⟩
theorem LSt.none {sz n : Nat} {cs : List PV} {x : PV} (h : LSt sz n cs x) : LS sz n cs (x.ren fun _ => none) := by
  obtain ⟨t, z, rfl, ht, hz⟩ := h
  rcases ht with rfl | ⟨rfl, h0⟩ | ⟨k, rfl⟩
  · exact ⟨.no, z, rfl, .inl rfl, hz⟩
  · exact ⟨.nil, z, rfl, .inr ⟨rfl, h0⟩, hz⟩
  · exact ⟨.no, z, rfl, .inl rfl, hz⟩
theorem flat_cleans : ∀ cs : List PV, cs.all flat = true → PV.cleans cs = some cs
  | [], _ => rfl
  | p :: r, h => by
    simp only [List.all_cons, Bool.and_eq_true] at h
    have ih := flat_cleans r h.2
    have hp : p.clean = some p := by
      cases p with
      | sl t sz n cs => cases t with
        | no => rfl
        | nil => exact absurd h.1 (by simp [flat])
        | tok k => exact absurd h.1 (by simp [flat])
      | fn f cs => exact absurd h.1 (by simp [flat])
      | agg cs => exact absurd h.1 (by simp [flat])
      | tup cs => exact absurd h.1 (by simp [flat])
      | row a b c d => exact absurd h.1 (by simp [flat])
      | ptr a b => exact absurd h.1 (by simp [flat])
      | _ => rfl
    simp only [PV.cleans, hp, ih]
/-- A row given out. -/
theorem pub_row {H : Hp} {sz n f : Nat} {x : PV} {cs : List PV} (h : RowAt H sz x cs n) (hl : cs.length = n * sz) (hf : cs.all flat = true) (h1 : cs.all PV.one = true) : ∃ x' H', pubV (f + 3) x H = some (x', H') ∧ LSt sz n cs x' ∧ H'.length = H.length ∧ ∀ j, j ∉ x.toks → H'[j]? = H[j]? := by
  rcases h.full hl with ⟨h0, rfl⟩ | ⟨h0, k, z, rfl, hz, hk⟩ | ⟨h0, k, rfl, hk⟩
  · exact ⟨_, H, rfl, ⟨_, _, rfl, .inr (.inl ⟨rfl, h0⟩), .inr h0⟩, rfl, fun _ _ => rfl⟩
  · exact ⟨_, H, rfl, ⟨_, _, rfl, .inr (.inr ⟨k, rfl⟩), .inr h0⟩, rfl, fun _ _ => rfl⟩
  · refine ⟨.sl .no sz n cs, H.set k .dead, ?_, ⟨_, _, rfl, .inl rfl, .inl rfl⟩, by simp, fun j hj => List.getElem?_set_ne (fun e => hj (by simp [PV.toks, e]))⟩
    have hp := pub_flat (f + 1) cs hf (H.set k .dead)
    simp only [pubV, hk, hp, flat_cleans cs hf, h1, hl, Nat.zero_add, Nat.le_refl, and_self, if_true, List.drop_zero]
    rw [List.take_of_length_le (by omega)]
theorem pub_spool {H : Hp} {q p : Nat} {s : Spl} {a b c d : PV} (h : SH H q p s a b c d) (z : Int) (ρ : Hp → PV → Nat → Option Nat) : ∃ x H', pubV 8 (.tup [.agg (cellS a b c d s), .int .i64 z]) H = some (x, H') ∧ ∃ cs', (x.ren (ρ H' x)).ren (fun _ => none) = .tup [.agg cs', .int .i64 z] ∧ SplR s cs' := by
  obtain ⟨_, _, _, _, _, p5, p6, p7⟩ := h.sep
  obtain ⟨a', H1, e1, l1, n1, k1⟩ := pub_row (f := 3) h.ra (iCs_len _) (iCs_flat _) (iCs_one _)
  have rb1 : RowAt H1 1 b (nCs s.sent) s.sent.length := h.rb.mono fun k hk => k1 k fun hm => (p5 k hm).1 hk
  obtain ⟨b', H2, e2, l2, n2, k2⟩ := pub_row (f := 3) rb1 (by simp) (ints_flat _) (ints_one _)
  have rd2 : RowAt H2 1 d (nCs s.done) s.done.length := h.rd.at_.mono fun k hk => (k2 k fun hm => (p6 k hm).2 hk).trans (k1 k fun hm => (p5 k hm).2.2 hk)
  obtain ⟨d', H3, e3, l3, n3, k3⟩ := pub_row (f := 3) rd2 (by simp) (ints_flat _) (ints_one _)
  have lc : LSt 1 s.part.length (s.part.map b8) c := by
    rcases h.rc with ⟨h0, rfl⟩ | ⟨k, z, rfl, hz, hk⟩
    · rw [h0]; exact ⟨_, _, rfl, .inr (.inl ⟨rfl, rfl⟩), .inr rfl⟩
    · exact ⟨_, _, rfl, .inr (.inr ⟨k, rfl⟩), hz.elim .inl (fun h => .inr (by rw [h.2]; rfl))⟩
  have e4 : pubV 6 c H2 = some (c, H2) := by
    obtain ⟨t, z, rfl, _⟩ := lc
    rfl
  have hpub : pubV 8 (.tup [.agg (cellS a b c d s), .int .i64 z]) H = some (.tup [.agg [a', .int .i64 s.packs, b', c, .int .i64 s.of_, d'], .int .i64 z], H3) := by
    have i6 : ∀ (y : Int) (X : Hp), pubV 6 (.int .i64 y) X = some (.int .i64 y, X) := fun _ _ => rfl
    have i7 : ∀ (y : Int) (X : Hp), pubV 7 (.int .i64 y) X = some (.int .i64 y, X) := fun _ _ => rfl
    have ha : pubV 7 (.agg (cellS a b c d s)) H = some (.agg [a', .int .i64 s.packs, b', c, .int .i64 s.of_, d'], H3) := by
      show (match pubLw (pubV 6) (cellS a b c d s) H with | some (ds, H2) => some (PV.agg ds, H2) | none => none) = _
      simp only [cellS, pubLw, e1, e2, e3, e4, i6]
    show (match pubLw (pubV 7) [.agg (cellS a b c d s), .int .i64 z] H with | some (ds, H2) => some (PV.tup ds, H2) | none => none) = _
    simp only [pubLw, ha, i7]
  refine ⟨_, H3, hpub, _, rfl, ?_⟩
  exact ⟨_, _, _, _, rfl, (l1.ren _).none, (l2.ren _).none, (lc.ren _).none, (l3.ren _).none⟩
end Go.Proofs.YtnljpfjoboafoaaDoor.Tab

namespace Go.Proofs.YtnljpfjoboafoaaDoor.Tab
set_option linter.all false
open Go Go.RowKit Go.Proofs.YtnljpfjoboafoaaDoor.Ev
theorem shift_at {m : Nat} {H : Hp} {k : Nat} {o : Ob} (h : H[k]? = some o) : (shift m H)[k]? = some (match (generalizing := false) o with | .tok => .tok | .cells cs => .cells (PV.rens (fun j => some (m + j)) cs) | .dead => .dead) := by
  unfold shift
  rw [List.getElem?_map, h]
  rfl
theorem shift_len (m : Nat) (H : Hp) : (shift m H).length = H.length := by unfold shift; simp
theorem cellS_one {H : Hp} {n1 n2 n3 : Nat} {z1 z2 z3 : Nat} {a b c d : PV} {s : Spl} {k1 k2 k3 : List PV} {l : List UInt8} (ha : RowAt H z1 a k1 n1) (hb : RowAt H z2 b k2 n2) (hc : TokAt H c l) (hd : RowAt H z3 d k3 n3) : (cellS a b c d s).all PV.one = true := by
  have one : ∀ {z n : Nat} {x : PV} {cs : List PV}, RowAt H z x cs n → x.one = true := fun h => by rcases h with ⟨_, rfl⟩ | ⟨_, _, _, rfl, _⟩ | ⟨_, _, rfl, _⟩ <;> rfl
  have oc : c.one = true := by rcases hc with ⟨_, rfl⟩ | ⟨_, _, rfl, _⟩ <;> rfl
  have oi : ∀ z : Int, (PV.int .i64 z).one = true := fun _ => rfl
  simp only [cellS, List.all_cons, List.all_nil, one ha, one hb, oc, one hd, oi, Bool.and_true]
theorem SH.setq {H : Hp} {q p : Nat} {s : Spl} {a b c d : PV} (h : SH H q p s a b c d) (Y : List PV) (hY : Y.length = 6) : SH (H.set q (.cells Y)) q p s a b c d := by
  obtain ⟨p0, p1, p2, p3, p4, _⟩ := h.sep
  have hk : ∀ k, k ≠ q → (H.set q (.cells Y))[k]? = H[k]? := fun k hk => List.getElem?_set_ne (fun e => hk e.symm)
  exact ⟨(hk p p0).trans h.at_, h.ra.mono fun k hm => hk k (p1 k hm).2, h.rb.mono fun k hm => hk k (p2 k hm).2, h.rc.mono fun k hm => hk k (p3 k hm).2, h.rd.mono fun k hm => hk k (p4 k hm).2, h.nd, Y, List.getElem?_set_self h.qlt, hY⟩
def addO (s : Spl) (r : Rc) : Spl × Int := match addS s r with | some s' => (s', 0) | none => (noS, 5)
theorem T_Add {s : Spl} {r : Rc} {cs rcs : List PV} (h : SplR s cs) (hr : RecR r rcs) (hf : Fits r) (hsh : Shorts r) (hk : Roomy s) (hfs : FitsS s) :
    ∃ x H', T 17 [.agg cs, .agg rcs] [] = some (x, H') ∧ ∃ cs', x.ren (fun _ => none) = .tup [.agg cs', .int .i64 (addO s r).2] ∧ SplR (addO s r).1 cs' := by
  obtain ⟨x1, x2, x3⟩ := h.box
  obtain ⟨y1, y2, y3⟩ := hr.box
  have hl6 : cs.length = 6 := by obtain ⟨_, _, _, _, rfl, _⟩ := h; rfl
  have ht6 : cs.take 6 = cs := List.take_of_length_le (by omega)
  have hl15 : rcs.length = 15 := by obtain ⟨_, _, _, _, rfl, _⟩ := hr; rfl
  have ht15 : rcs.take 15 = rcs := List.take_of_length_le (by omega)
  obtain ⟨a, b, c, d, Ht, c30, hS⟩ := T_Twin h hfs hk
  obtain ⟨Z, hZ⟩ : ∃ Z : List PV, Z = [.sl .nil 0 0 [], .int .i64 0, .sl .nil 0 0 [], .sl .nil 0 0 [], .int .i64 0, .sl .nil 0 0 []] := ⟨_, rfl⟩
  have mv : ∀ k o, Ht[k]? = some o → ∀ Y : Hp, (Ob.cells Z :: (shift 1 Ht ++ Y))[1 + k]? = some (match (generalizing := false) o with | .tok => .tok | .cells cs => .cells (PV.rens (fun j => some (1 + j)) cs) | .dead => .dead) := fun k o hk Y => by
    rw [Nat.add_comm, List.getElem?_cons_succ, List.getElem?_append_left (by rw [shift_len]; exact (List.getElem?_eq_some_iff.1 hk).1)]
    exact shift_at hk
  have hlt : ∀ k ∈ a.toks ++ (b.toks ++ (c.toks ++ d.toks)), k < Ht.length := fun k hm => by
    simp only [List.mem_append] at hm
    rcases hm with hm | hm | hm | hm
    · exact hS.ra.lt k hm
    · exact hS.rb.lt k hm
    · exact hS.rc.lt k hm
    · exact hS.rd.lt k hm
  obtain ⟨a', ha'⟩ : ∃ a', a.ren (fun j => some (1 + j)) = a' := ⟨_, rfl⟩
  obtain ⟨b', hb'⟩ : ∃ b', b.ren (fun j => some (1 + j)) = b' := ⟨_, rfl⟩
  obtain ⟨c', hc'⟩ : ∃ c', c.ren (fun j => some (1 + j)) = c' := ⟨_, rfl⟩
  obtain ⟨d', hd'⟩ : ∃ d', d.ren (fun j => some (1 + j)) = d' := ⟨_, rfl⟩
  have hM := hS.move (ρ := fun j => some (1 + j)) (H' := Ob.cells Z :: (shift 1 Ht ++ [.cells (cellS a' b' c' d' s)])) (fun k1 k2 x e1 e2 => by have := Option.some.inj (e1.trans e2.symm); omega)
    (fun k hm ht => ⟨_, rfl, mv k _ ht _⟩) (fun k hm cs hcs ht => ⟨_, rfl, by rw [mv k _ ht _]; simp only [rens_flat _ hcs]⟩)
  have htk : a'.toks ++ (b'.toks ++ (c'.toks ++ d'.toks)) = (a.toks ++ (b.toks ++ (c.toks ++ d.toks))).filterMap (fun j => some (1 + j)) := by
    rw [← ha', ← hb', ← hc', ← hd']
    simp only [ren_toks, List.filterMap_append]
  rw [ha', hb', hc', hd'] at hM
  have hH : SH (Ob.cells Z :: (shift 1 Ht ++ [.cells (cellS a' b' c' d' s)])) 0 (Ht.length + 1) s a' b' c' d' := by
    refine ⟨?_, hM.ra, hM.rb, hM.rc, hM.rd, ?_, Z, rfl, by rw [hZ]; rfl⟩
    · rw [List.getElem?_cons_succ, List.getElem?_append_right (by rw [shift_len]; exact Nat.le_refl _), shift_len, Nat.sub_self]; rfl
    · have hn := hM.nd
      refine List.nodup_cons.2 ⟨fun hm => ?_, List.nodup_cons.2 ⟨fun hm => ?_, hn⟩⟩
      · rcases List.mem_cons.1 hm with hm | hm
        · omega
        · rw [htk] at hm
          obtain ⟨k, h1, h2⟩ := List.mem_filterMap.1 hm
          have := hlt k h1
          have := Option.some.inj h2
          omega
      · rw [htk] at hm
        obtain ⟨k, h1, h2⟩ := List.mem_filterMap.1 hm
        have := Option.some.inj h2
        omega
  obtain ⟨H2, c25, ⟨a2, b2, c2, d2, h2⟩, hl2⟩ := T_add hH hr hf hsh hk
  have hl2' : 2 ≤ H2.length := by simp at hl2; omega
  have hp2 := h2.at_
  obtain ⟨cq, hq, hql⟩ := h2.aq
  have hle6 : 6 ≤ cq.length := by omega
  have hd6 : cq.drop 6 = [] := List.drop_eq_nil_of_le (by omega)
  have hget : ∀ o : Ob, (shift 1 Ht ++ [o])[Ht.length]? = some o := fun o => by rw [List.getElem?_append_right (by rw [shift_len]; exact Nat.le_refl _), shift_len, Nat.sub_self]; rfl
  have hset : ∀ o x : Ob, (shift 1 Ht ++ [o]).set Ht.length x = shift 1 Ht ++ [x] := fun o x => by rw [List.set_append_right _ _ (by rw [shift_len]; exact Nat.le_refl _), shift_len, Nat.sub_self]; rfl
  have o1 := cellS_one (s := s) hM.ra hM.rb hM.rc hM.rd.at_
  have o2 := cellS_one (s := (addS s r).getD s) h2.ra h2.rb h2.rc h2.rd.at_
  have hrens : PV.rens (fun j => some (1 + j)) (cellS a b c d s) = cellS a' b' c' d' s := by rw [← ha', ← hb', ← hc', ← hd']; rfl
  obtain ⟨CS, hCS⟩ : ∃ CS, cellS a' b' c' d' s = CS := ⟨_, rfl⟩
  have hCl : CS.length = 6 := by rw [← hCS]; rfl
  rw [hCS] at o1 hrens c25
  have fin : ∀ (D : Spl) (a3 b3 c3 d3 : PV) (z : Int) (H3 : Hp), SH H3 0 (Ht.length + 1) D a3 b3 c3 d3 → evL T 0 q17 [.agg cs, .agg rcs] [] = some (.rt, [.ptr 0 0, .int .i64 z], H3.set 0 (.cells (cellS a3 b3 c3 d3 D))) →
      ∃ x H', T 17 [.agg cs, .agg rcs] [] = some (x, H') ∧ ∃ cs', x.ren (fun _ => none) = .tup [.agg cs', .int .i64 z] ∧ SplR D cs' := by
    intro D a3 b3 c3 d3 z H3 hh he
    have hh2 := hh.setq (cellS a3 b3 c3 d3 D) rfl
    obtain ⟨x, H', hp, cs', e1, e2⟩ := pub_spool hh2 z (fun H' x => renOf 0 H' (used 0 [x] H'))
    refine ⟨x.ren (renOf 0 H' (used 0 [x] H')), (compact 0 [x] H').2, evT_of (F := l17) (l := [.agg (cellS a3 b3 c3 d3 D), .int .i64 z]) rfl rfl rfl he ?_ ?_, cs', e1, e2⟩
    · show evR [.ptr 0 0, .int .i64 z] _ [.cell 0 true 6, .t 1] = _
      have hq0 : (H3.set 0 (.cells (cellS a3 b3 c3 d3 D)))[0]? = some (.cells (cellS a3 b3 c3 d3 D)) := List.getElem?_set_self hh.qlt
      have hcl : (cellS a3 b3 c3 d3 D).length = 6 := rfl
      simp only [evR, List.getD, List.getElem?_cons_zero, List.getElem?_cons_succ, Option.getD_some, hq0, List.drop_zero, List.take_of_length_le (Nat.le_of_eq hcl), PV.of?, hcl, if_true]
    · show evEnd true 0 (.tup [.agg (cellS a3 b3 c3 d3 D), .int .i64 z]) _ = _
      simp only [evEnd, hp]
  have c25' := c25
  unfold addO
  cases ho : addS s r with
  | none =>
    rw [ho] at c25 h2 hp2 o2
    have he : evL T 0 q17 [.agg cs, .agg rcs] [] = some (.rt, [.ptr 0 0, .int .i64 5], H2.set 0 (.cells Z)) := by
      rw [hZ] at c25 ⊢
      unfold q17
      rw [evL_op, bx (by rfl) x1 x2, evK_some, evL_op, bx (by rfl) y1 y2, evK_some]
      simp only [evL_op, evL_sel, evL_nx, evL_exit, evL_ret, evL_join, evL_block, evL_cond, evK_some, evJ_nx, evJ_rt, evJ_ex, evB_nx, evB_rt, evB_ex, evC2_bool, evS_and, evS_or, evS_tf, evS_ft, ev_t, ev_s, ev_c, evalOp, bin_add, bin_sub, bin_mul, bin_eql, bin_neq, bin_lss, bin_leq, bin_gtr, bin_geq, sbin_eql, sbin_neq, b8, List.map_cons, List.map_nil, PV.rens, PV.ren, if_true, if_false, Bool.false_eq_true, reduceIte, Nat.reduceAdd, Nat.reduceSub, Nat.reduceMul, Nat.reduceEqDiff, Nat.reduceLeDiff, Int.reduceLE, Int.reduceLT, Int.reduceEq, Int.reduceToNat, Int.reduceAdd, Int.reduceSub, Int.reduceNeg, decide_true, decide_false, Bool.not_true, Bool.not_false, Bool.true_and, Bool.false_and, Bool.and_true, Bool.and_false, Bool.or_true, Bool.true_or, Bool.or_false, Bool.false_or, and_self, and_true, true_and, Nat.le_refl, Nat.zero_add, Nat.mul_one, Nat.one_ne_zero, Nat.zero_le, highP, lowP, Option.map_some, Option.map_none, List.drop_zero, List.take_zero, List.length_cons, List.length_nil, List.nil_append, List.append_nil, List.cons_append, fillP, PV.cells?, PV.one, PV.cleans, PV.clean, PV.of?, List.all_cons, List.all_nil, List.take_succ_cons, List.drop_succ_cons, Bool.and_self, Int.natCast_nonneg, Int.toNat_natCast, Int.toNat_zero, PV.of?, Tk.ren, tailP, evL_loop, or_true, true_or, Nat.zero_lt_one, Nat.sub_zero, List.getElem?_cons_zero, List.getElem?_cons_succ, List.set_cons_zero, List.set_cons_succ, List.take_length, hl6, ht6, hl15, ht15, PV.rens, PV.ren, x3, c30, hrens, shift_len, hget, hset, o1, hCl, y3, c25, Option.isSome_none, hq, hle6, hd6]
    refine ⟨.tup [.agg Z, .int .i64 5], (compact 0 [.tup [.agg Z, .int .i64 5]] (H2.set 0 (.cells Z))).2, evT_of (F := l17) (l := [.agg Z, .int .i64 5]) rfl rfl rfl he ?_ ?_, Z, by rw [hZ]; rfl, ?_⟩
    · show evR [.ptr 0 0, .int .i64 5] _ [.cell 0 true 6, .t 1] = _
      have hq0 : (H2.set 0 (.cells Z))[0]? = some (.cells Z) := List.getElem?_set_self h2.qlt
      have hcl : Z.length = 6 := by rw [hZ]; rfl
      simp only [evR, List.getD, List.getElem?_cons_zero, List.getElem?_cons_succ, Option.getD_some, hq0, List.drop_zero, List.take_of_length_le (Nat.le_of_eq hcl), PV.of?, hcl, if_true]
    · show evEnd true 0 (.tup [.agg Z, .int .i64 5]) _ = _
      rw [hZ]
      rfl
    · rw [hZ]
      exact ⟨_, _, _, _, rfl, ⟨_, _, rfl, .inr ⟨rfl, rfl⟩, .inr rfl⟩, ⟨_, _, rfl, .inr ⟨rfl, rfl⟩, .inr rfl⟩, ⟨_, _, rfl, .inr ⟨rfl, rfl⟩, .inr rfl⟩, ⟨_, _, rfl, .inr ⟨rfl, rfl⟩, .inr rfl⟩⟩
  | some s2 =>
    rw [ho] at c25 h2 hp2 o2
    simp only [Option.getD_some] at h2 hp2 o2
    refine fin s2 a2 b2 c2 d2 0 H2 h2 ?_
    obtain ⟨C2, hC2⟩ : ∃ C2, cellS a2 b2 c2 d2 s2 = C2 := ⟨_, rfl⟩
    have hCl2 : C2.length = 6 := by rw [← hC2]; rfl
    have htk2 : C2.take 6 = C2 := List.take_of_length_le (by omega)
    rw [hC2] at hp2 o2 ⊢
    rw [hZ] at c25
    unfold q17
    rw [evL_op, bx (by rfl) x1 x2, evK_some, evL_op, bx (by rfl) y1 y2, evK_some]
    simp only [evL_op, evL_sel, evL_nx, evL_exit, evL_ret, evL_join, evL_block, evL_cond, evK_some, evJ_nx, evJ_rt, evJ_ex, evB_nx, evB_rt, evB_ex, evC2_bool, evS_and, evS_or, evS_tf, evS_ft, ev_t, ev_s, ev_c, evalOp, bin_add, bin_sub, bin_mul, bin_eql, bin_neq, bin_lss, bin_leq, bin_gtr, bin_geq, sbin_eql, sbin_neq, b8, List.map_cons, List.map_nil, PV.rens, PV.ren, if_true, if_false, Bool.false_eq_true, reduceIte, Nat.reduceAdd, Nat.reduceSub, Nat.reduceMul, Nat.reduceEqDiff, Nat.reduceLeDiff, Int.reduceLE, Int.reduceLT, Int.reduceEq, Int.reduceToNat, Int.reduceAdd, Int.reduceSub, Int.reduceNeg, decide_true, decide_false, Bool.not_true, Bool.not_false, Bool.true_and, Bool.false_and, Bool.and_true, Bool.and_false, Bool.or_true, Bool.true_or, Bool.or_false, Bool.false_or, and_self, and_true, true_and, Nat.le_refl, Nat.zero_add, Nat.mul_one, Nat.one_ne_zero, Nat.zero_le, highP, lowP, Option.map_some, Option.map_none, List.drop_zero, List.take_zero, List.length_cons, List.length_nil, List.nil_append, List.append_nil, List.cons_append, fillP, PV.cells?, PV.one, PV.cleans, PV.clean, PV.of?, List.all_cons, List.all_nil, List.take_succ_cons, List.drop_succ_cons, Bool.and_self, Int.natCast_nonneg, Int.toNat_natCast, Int.toNat_zero, PV.of?, Tk.ren, tailP, evL_loop, or_true, true_or, Nat.zero_lt_one, Nat.sub_zero, List.getElem?_cons_zero, List.getElem?_cons_succ, List.set_cons_zero, List.set_cons_succ, List.take_length, hl6, ht6, hl15, ht15, PV.rens, PV.ren, x3, c30, hrens, shift_len, hget, hset, o1, hCl, y3, c25, Option.isSome_some, hq, hle6, hd6, hp2, hCl2, htk2, o2]
end Go.Proofs.YtnljpfjoboafoaaDoor.Tab

namespace Go.Proofs.YtnljpfjoboafoaaDoor.Tab
set_option linter.all false
open Go Go.RowKit Go.Proofs.YtnljpfjoboafoaaDoor.Ev
def SplT (s : Spl) (cs : List PV) : Prop := ∃ a b c d, cs = [a, .int .i64 s.packs, b, c, .int .i64 s.of_, d] ∧ LSt 11 s.items.length (iCs s.items) a ∧ LSt 1 s.sent.length (nCs s.sent) b ∧ LSt 1 s.part.length (s.part.map b8) c ∧ LSt 1 s.done.length (nCs s.done) d
theorem LS.t {sz n : Nat} {cs : List PV} {x : PV} (h : LS sz n cs x) : LSt sz n cs x := by
  obtain ⟨t, z, rfl, ht, hz⟩ := h
  exact ⟨t, z, rfl, ht.elim .inl (fun h => .inr (.inl h)), hz⟩
theorem SplR.t {s : Spl} {cs : List PV} (h : SplR s cs) : SplT s cs := by
  obtain ⟨a, b, c, d, rfl, h1, h2, h3, h4⟩ := h
  exact ⟨a, b, c, d, rfl, h1.t, h2.t, h3.t, h4.t⟩
theorem SplT.none {s : Spl} {cs : List PV} (h : SplT s cs) : SplR s (PV.rens (fun _ => none) cs) := by
  obtain ⟨a, b, c, d, rfl, h1, h2, h3, h4⟩ := h
  exact ⟨_, _, _, _, rfl, h1.none, h2.none, h3.none, h4.none⟩
theorem SplT.ren {s : Spl} {cs : List PV} (h : SplT s cs) (ρ : Nat → Option Nat) : SplT s (PV.rens ρ cs) := by
  obtain ⟨a, b, c, d, rfl, h1, h2, h3, h4⟩ := h
  exact ⟨_, _, _, _, rfl, h1.ren ρ, h2.ren ρ, h3.ren ρ, h4.ren ρ⟩
theorem SplT.one {s : Spl} {cs : List PV} (h : SplT s cs) : cs.length = 6 ∧ cs.all PV.one = true := by
  obtain ⟨a, b, c, d, rfl, ⟨_, _, rfl, _⟩, ⟨_, _, rfl, _⟩, ⟨_, _, rfl, _⟩, ⟨_, _, rfl, _⟩⟩ := h
  exact ⟨rfl, rfl⟩
theorem SplT.nils {s : Spl} {cs cs' : List PV} (h : SplT s cs) (hl : cs'.length = cs.length)
    (hg : ∀ (j : Nat) p, cs[j]? = some p → ((∀ sz m ds, p ≠ .sl .nil sz m ds) ∧ cs'[j]? = some p) ∨ ∃ sz m ds k, p = .sl .nil sz m ds ∧ cs'[j]? = some (PV.sl (.tok k) sz m ds)) : SplT s cs' := by
  obtain ⟨a, b, c, d, rfl, h1, h2, h3, h4⟩ := h
  have L : ∀ {sz n : Nat} {xs : List PV} {x : PV} {j : Nat}, LSt sz n xs x → [a, .int .i64 s.packs, b, c, .int .i64 s.of_, d][j]? = some x → ∃ x', cs'[j]? = some x' ∧ LSt sz n xs x' := fun {sz n xs x j} hx hj => by
    rcases hg j x hj with ⟨_, h⟩ | ⟨z, m, ds, k, rfl, h⟩
    · exact ⟨x, h, hx⟩
    · obtain ⟨t, z', e, ht, hz⟩ := hx
      cases e
      exact ⟨_, h, ⟨_, _, rfl, .inr (.inr ⟨k, rfl⟩), hz⟩⟩
  have I : ∀ {y : Int} {j : Nat}, [a, .int .i64 s.packs, b, c, .int .i64 s.of_, d][j]? = some (.int .i64 y) → cs'[j]? = some (.int .i64 y) := fun {y j} hj => by
    rcases hg j _ hj with ⟨_, h⟩ | ⟨_, _, _, _, h, _⟩
    · exact h
    · cases h
  obtain ⟨a', ga, la⟩ := L (j := 0) h1 rfl
  have g1 := I (j := 1) (y := s.packs) rfl
  obtain ⟨b', gb, lb⟩ := L (j := 2) h2 rfl
  obtain ⟨c', gc, lc⟩ := L (j := 3) h3 rfl
  have g4 := I (j := 4) (y := s.of_) rfl
  obtain ⟨d', gd, ld⟩ := L (j := 5) h4 rfl
  match cs', hl with
  | [y0, y1, y2, y3, y4, y5], _ =>
    simp only [List.getElem?_cons_zero, List.getElem?_cons_succ, Option.some.injEq] at ga g1 gb gc g4 gd
    subst ga; subst g1; subst gb; subst gc; subst g4; subst gd
    exact ⟨_, _, _, _, rfl, la, lb, lc, ld⟩
def SV (H : Hp) (s : Spl) : Prop := ∃ cs, H[0]? = some (.cells cs) ∧ SplT s cs
theorem SV.head {H : Hp} {n : Nat} {s : Spl} {env : List PV} (h : SV H s) (hn : n ≤ H.length) (h0 : 0 < n) (he : ∀ x ∈ env, flat x = true ∨ x = .ptr 0 0 ∨ ∃ l, TokAt H x l) :
    ∃ env' H', headS n env H = (env', H') ∧ SV H' s ∧ n ≤ H'.length ∧ env'.length = env.length ∧
      ∀ (j : Nat) (x : PV), env[j]? = some x → ((flat x = true ∨ x = .ptr 0 0) → env'[j]? = some x) ∧ ∀ l, TokAt H x l → ∃ x', env'[j]? = some x' ∧ TokAt H' x' l := by
  obtain ⟨cs, hc, hs⟩ := h
  obtain ⟨hk1, hk2⟩ := nilTs_keep env H
  obtain ⟨ht1, ht2⟩ := nilTs_get env H
  have hlt := (List.getElem?_eq_some_iff.1 hc).1
  have hc1 := (hk2 0 hlt).trans hc
  have hob := nilObs_get n (nilTs env H).2 (by omega)
  obtain ⟨cs2, c1, c2, c3, _⟩ := hob.2.2.2 0 _ h0 hc1
  have s2 : SplT s cs2 := hs.nils c2 fun j p hp => by
    rcases c3 j p hp with h | ⟨sz, m, ds, k, e1, e2, _⟩
    · exact .inl h
    · exact .inr ⟨sz, m, ds, k, e1, e2⟩
  obtain ⟨k0, r1, r2, r3⟩ := (cpt (n := n) (ps := (nilTs env H).1) (H := nilObs n (nilTs env H).2) (by omega) (k := 0) (.inr h0)).2 _ c1
  obtain rfl := r3 h0
  have tokk : ∀ k, k ∈ PV.toksL (nilTs env H).1 → (nilObs n (nilTs env H).2)[k]? = some .tok → ∃ k', renOf n (nilObs n (nilTs env H).2) (used n (nilTs env H).1 (nilObs n (nilTs env H).2)) k = some k' ∧ (compact n (nilTs env H).1 (nilObs n (nilTs env H).2)).2[k']? = some .tok := fun k hk ht =>
    (cpt (n := n) (ps := (nilTs env H).1) (H := nilObs n (nilTs env H).2) (by omega) (k := k) (.inl (.inl hk))).1 ht (.inl hk)
  have keepT : ∀ k, (nilTs env H).2[k]? = some Ob.tok → (nilObs n (nilTs env H).2)[k]? = some Ob.tok := fun k hk => by
    rcases Nat.lt_or_ge k n with h | h
    · rw [hob.2.2.1 k h (fun cs e => by rw [hk] at e; cases e)]; exact hk
    · rw [hob.2.1 k h (List.getElem?_eq_some_iff.1 hk).1]; exact hk
  refine ⟨PV.rens (renOf n (nilObs n (nilTs env H).2) (used n (nilTs env H).1 (nilObs n (nilTs env H).2))) (nilTs env H).1, (compact n (nilTs env H).1 (nilObs n (nilTs env H).2)).2, rfl, ⟨_, r2, s2.ren _⟩, cpt_len (by omega), by rw [rens_length, ht1], fun j x hx => ?_⟩
  have hget : ∀ y, (nilTs env H).1[j]? = some y → (PV.rens (renOf n (nilObs n (nilTs env H).2) (used n (nilTs env H).1 (nilObs n (nilTs env H).2))) (nilTs env H).1)[j]? = some (y.ren (renOf n (nilObs n (nilTs env H).2) (used n (nilTs env H).1 (nilObs n (nilTs env H).2)))) := fun y hy => by rw [rens_map, List.getElem?_map, hy]; rfl
  rcases ht2 j x hx with ⟨g1, g2⟩ | ⟨z, m, ds, k, rfl, g2, g3, g4⟩
  · refine ⟨fun hf => ?_, fun l hl => ?_⟩
    · rw [hget x g2]
      rcases hf with hf | rfl
      · have := rens_flat (renOf n (nilObs n (nilTs env H).2) (used n (nilTs env H).1 (nilObs n (nilTs env H).2))) (env := [x]) (by simp [hf])
        simp only [PV.rens, List.cons.injEq, and_true] at this
        rw [this]
      · simp only [PV.ren, r1]
    · rcases hl with ⟨_, rfl⟩ | ⟨k, z, rfl, hz, hk⟩
      · exact absurd rfl (g1 _ _ _)
      · obtain ⟨k', q1, q2⟩ := tokk k (toksL_of (List.mem_of_getElem? g2) (by simp [PV.toks])) (keepT k ((hk2 k (List.getElem?_eq_some_iff.1 hk).1).trans hk))
        exact ⟨_, hget _ g2, .inr ⟨k', z, by simp only [PV.ren, Tk.ren, q1], hz, q2⟩⟩
  · refine ⟨fun hf => ?_, fun l hl => ?_⟩
    · rcases hf with hf | hf
      · simp [flat] at hf
      · cases hf
    · rcases hl with ⟨h0, e⟩ | ⟨k, z, e, _⟩
      · cases e
        obtain ⟨k', q1, q2⟩ := tokk k (toksL_of (List.mem_of_getElem? g2) (by simp [PV.toks])) (keepT k g4)
        exact ⟨_, hget _ g2, .inr ⟨k', 0, by simp only [PV.ren, Tk.ren, q1, h0]; rfl, .inr ⟨rfl, h0⟩, q2⟩⟩
      · cases e
end Go.Proofs.YtnljpfjoboafoaaDoor.Tab
