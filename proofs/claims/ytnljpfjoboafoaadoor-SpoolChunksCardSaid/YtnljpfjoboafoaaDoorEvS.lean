/- What a heap that is made small keeps: whatever is in use lies there still, in its own place. -/
import Derived.Test.YtnljpfjoboafoaaDoorEv28
namespace Go.Proofs.YtnljpfjoboafoaaDoor.Ev
set_option linter.all false
open Go Go.RowKit
section
variable {n : Nat} {ps : List PV} {H : Hp}
theorem mem_dedup {k : Nat} : ∀ {l : List Nat}, k ∈ l → k ∈ dedup l
  | [], h => h
  | x :: r, h => by
    simp only [dedup]
    split
    · rename_i hc
      rcases List.mem_cons.1 h with rfl | h
      · simpa using hc
      · exact mem_dedup h
    · rcases List.mem_cons.1 h with rfl | h
      · simp
      · exact List.mem_cons_of_mem _ (mem_dedup h)
theorem reach_self {d : Nat} {l : List Nat} {k : Nat} (h : k ∈ l) : k ∈ reach n H d l := by
  cases d with
  | zero => exact h
  | succ d =>
    simp only [reach]
    split
    · exact h
    · exact List.mem_append_left _ h
/-- Is it held by what is handed on, or by one of the first n variables? -/
def Held (n : Nat) (ps : List PV) (H : Hp) (k : Nat) : Prop := k ∈ PV.toksL ps ∨ ∃ i cs, i < n ∧ H[i]? = some (.cells cs) ∧ k ∈ PV.toksL cs
theorem used_mem {k : Nat} (h : Held n ps H k) (hk : kp n H k = true) : k ∈ used n ps H := by
  unfold used
  refine mem_dedup (List.mem_filter.2 ⟨reach_self ?_, hk⟩)
  rcases h with h | ⟨i, cs, h1, h2, h3⟩
  · exact List.mem_append_left _ h
  · refine List.mem_append_right _ (List.mem_flatMap.2 ⟨.cells cs, ?_, h3⟩)
    exact List.mem_of_getElem? (i := i) (by rw [List.getElem?_take, if_pos h1]; exact h2)
theorem idxOf_get : ∀ {l : List Nat} {k j : Nat}, l.idxOf? k = some j → l[j]? = some k := fun {l k j} h => by
  unfold List.idxOf? at h
  obtain ⟨h1, h2⟩ := List.findIdx?_eq_some_iff_getElem.1 h
  obtain ⟨h3, _⟩ := h2
  rw [List.getElem?_eq_getElem h1]
  simpa using h3
theorem idxOf_mem {l : List Nat} {k : Nat} (h : k ∈ l) : ∃ j, l.idxOf? k = some j := by
  cases e : l.idxOf? k with
  | some j => exact ⟨j, rfl⟩
  | none =>
    unfold List.idxOf? at e
    have := List.findIdx?_eq_none_iff.1 e k h
    simp at this
theorem ren_inj {ks : List Nat} {k1 k2 x : Nat} (h1 : renOf n H ks k1 = some x) (h2 : renOf n H ks k2 = some x) : k1 = k2 := by
  unfold renOf at h1 h2
  split at h1
  · rename_i c1
    cases h1
    split at h2
    · cases h2; rfl
    · split at h2
      · rename_i j hj
        cases h2
        simp only [Bool.and_eq_true, decide_eq_true_eq] at c1
        omega
      · cases h2
  · rename_i c1
    split at h1
    · rename_i j hj
      cases h1
      split at h2
      · rename_i c2
        cases h2
        simp only [Bool.and_eq_true, decide_eq_true_eq] at c2
        omega
      · split at h2
        · rename_i j2 hj2
          have : j = j2 := by have := Option.some.inj h2; omega
          subst this
          have e1 := idxOf_get hj
          have e2 := idxOf_get hj2
          rw [e1] at e2
          exact Option.some.inj e2
        · cases h2
    · cases h1
/-- Where an entry that is in use comes to lie. -/
theorem cpt (hn : n ≤ H.length) {k : Nat} (h : Held n ps H k ∨ k < n) : (H[k]? = some .tok → Held n ps H k → ∃ k', renOf n H (used n ps H) k = some k' ∧ (compact n ps H).2[k']? = some .tok) ∧
    (∀ cs, H[k]? = some (.cells cs) → ∃ k', renOf n H (used n ps H) k = some k' ∧ (compact n ps H).2[k']? = some (.cells (PV.rens (renOf n H (used n ps H)) cs)) ∧ (k < n → k' = k)) := by
  have key : ∀ k, k ∈ used n ps H → (k < n && isCells H k) = false → ∃ k', renOf n H (used n ps H) k = some k' ∧ (compact n ps H).2[k']? = some (keepOb (renOf n H (used n ps H)) H[k]?) := fun k hk hc => by
    obtain ⟨j, hj⟩ := idxOf_mem hk
    refine ⟨n + j, ?_, ?_⟩
    · unfold renOf
      rw [if_neg (by rw [hc]; decide), hj]
    · rw [compact_new hn ps (by omega), Nat.add_sub_cancel_left, idxOf_get hj]
      rfl
  refine ⟨fun ht hh => ?_, fun cs hcs => ?_⟩
  · obtain ⟨k', h1, h2⟩ := key k (used_mem hh (by unfold kp; rw [isTok_iff.2 ht]; rfl)) (by
      have : isCells H k = false := by
        cases e : isCells H k with
        | false => rfl
        | true => obtain ⟨cs, h⟩ := isCells_iff.1 e; rw [ht] at h; cases h
      rw [this, Bool.and_false])
    rw [ht] at h2
    exact ⟨k', h1, h2⟩
  · have hic : isCells H k = true := isCells_iff.2 ⟨cs, hcs⟩
    by_cases hk : k < n
    · refine ⟨k, ?_, ?_, fun _ => rfl⟩
      · unfold renOf
        rw [if_pos (by rw [hic, Bool.and_true]; simpa using hk)]
      · rw [compact_old hn ps hk, hcs]
        rfl
    · have hh : Held n ps H k := h.resolve_right hk
      obtain ⟨k', h1, h2⟩ := key k (used_mem hh (by unfold kp; rw [hic, Bool.and_true, decide_eq_true (by omega), Bool.or_true])) (by rw [decide_eq_false hk, Bool.false_and])
      rw [hcs] at h2
      exact ⟨k', h1, h2, fun h => absurd h hk⟩
theorem cpt_len (hn : n ≤ H.length) : n ≤ (compact n ps H).2.length := by rw [compact_len hn]; omega
end
/-! ### What the first variables hold, nil slices told otherwise -/
/-- Values that are neither nil slices nor hold entries: they stay as they are. -/
theorem nilTs_get : ∀ (ps : List PV) (H : Hp), (nilTs ps H).1.length = ps.length ∧ ∀ (i : Nat) p, ps[i]? = some p → ((∀ sz n cs, p ≠ .sl .nil sz n cs) ∧ (nilTs ps H).1[i]? = some p) ∨
    ∃ sz n cs k, p = .sl .nil sz n cs ∧ (nilTs ps H).1[i]? = some (.sl (.tok k) sz n cs) ∧ H.length ≤ k ∧ (nilTs ps H).2[k]? = some .tok
  | [], H => ⟨rfl, fun i p h => by simp at h⟩
  | q :: r, H => by
    have other : (∀ sz n cs, q ≠ .sl .nil sz n cs) → nilTs (q :: r) H = (q :: (nilTs r H).1, (nilTs r H).2) → _ := fun hq e => by
      obtain ⟨h1, h2⟩ := nilTs_get r H
      refine (⟨by rw [e]; simp [h1], fun i p hp => ?_⟩ : (nilTs (q :: r) H).1.length = (q :: r).length ∧ ∀ (i : Nat) p, (q :: r)[i]? = some p → ((∀ sz n cs, p ≠ .sl .nil sz n cs) ∧ (nilTs (q :: r) H).1[i]? = some p) ∨
        ∃ sz n cs k, p = .sl .nil sz n cs ∧ (nilTs (q :: r) H).1[i]? = some (.sl (.tok k) sz n cs) ∧ H.length ≤ k ∧ (nilTs (q :: r) H).2[k]? = some .tok)
      rw [e]
      cases i with
      | zero => simp at hp; subst hp; exact .inl ⟨hq, rfl⟩
      | succ i => simpa using h2 i p (by simpa using hp)
    cases q with
    | sl t sz n cs =>
      cases t with
      | nil =>
        obtain ⟨h1, h2⟩ := nilTs_get r (H ++ [.tok])
        refine ⟨by simp only [nilTs]; simp [h1], fun i p hp => ?_⟩
        simp only [nilTs]
        cases i with
        | zero =>
          simp at hp
          subst hp
          refine .inr ⟨sz, n, cs, H.length, rfl, rfl, Nat.le_refl _, ?_⟩
          rw [(nilTs_len r (H ++ [Ob.tok])).2 H.length (by simp)]
          simp
        | succ i =>
          rcases h2 i p (by simpa using hp) with h | ⟨sz', n', cs', k, h3, h4, h5, h6⟩
          · exact .inl (by simpa using h)
          · exact .inr ⟨sz', n', cs', k, h3, by simpa using h4, by simp at h5; omega, h6⟩
      | no => exact other (fun _ _ _ h => by cases h) rfl
      | tok k => exact other (fun _ _ _ h => by cases h) rfl
    | _ => exact other (fun _ _ _ h => by cases h) rfl
theorem nilTs_toks : ∀ (ps : List PV) (H : Hp), (PV.toksL ps).Nodup → (∀ k ∈ PV.toksL ps, k < H.length) → (PV.toksL (nilTs ps H).1).Nodup ∧ ∀ k ∈ PV.toksL (nilTs ps H).1, k ∈ PV.toksL ps ∨ (H.length ≤ k ∧ k < (nilTs ps H).2.length)
  | [], H, _, _ => ⟨List.nodup_nil, fun k h => by cases h⟩
  | q :: r, H, hn, hl => by
    simp only [PV.toksL] at hn hl
    obtain ⟨n1, n2, n3⟩ := List.nodup_append.1 hn
    have other : nilTs (q :: r) H = (q :: (nilTs r H).1, (nilTs r H).2) → (PV.toksL (nilTs (q :: r) H).1).Nodup ∧ ∀ k ∈ PV.toksL (nilTs (q :: r) H).1, k ∈ PV.toksL (q :: r) ∨ (H.length ≤ k ∧ k < (nilTs (q :: r) H).2.length) := fun e => by
      obtain ⟨h1, h2⟩ := nilTs_toks r H n2 (fun k h => hl k (List.mem_append_right _ h))
      rw [e]
      simp only [PV.toksL]
      refine ⟨List.nodup_append.2 ⟨n1, h1, fun a ha b hb => ?_⟩, fun k hk => ?_⟩
      · rcases h2 b hb with hb | ⟨hb, _⟩
        · exact n3 a ha b hb
        · have := hl a (List.mem_append_left _ ha)
          omega
      · rcases List.mem_append.1 hk with hk | hk
        · exact .inl (List.mem_append_left _ hk)
        · exact (h2 k hk).imp (fun h => List.mem_append_right _ h) (fun h => h)
    cases q with
    | sl t sz n cs =>
      cases t with
      | nil =>
        obtain ⟨h1, h2⟩ := nilTs_toks r (H ++ [Ob.tok]) n2 (fun k h => by have := hl k (List.mem_append_right _ h); simp; omega)
        have hlen := (nilTs_len r (H ++ [Ob.tok])).1
        simp only [List.length_append, List.length_singleton] at hlen
        simp only [nilTs, PV.toksL, PV.toks, List.singleton_append, List.nil_append]
        refine ⟨List.nodup_cons.2 ⟨fun hc => ?_, h1⟩, fun k hk => ?_⟩
        · rcases h2 _ hc with h | ⟨h, _⟩
          · have := hl _ (List.mem_append_right _ h); omega
          · simp at h; omega
        · rcases List.mem_cons.1 hk with rfl | hk
          · exact .inr ⟨Nat.le_refl _, by omega⟩
          · rcases h2 k hk with h | ⟨h, h'⟩
            · exact .inl h
            · simp at h; exact .inr ⟨by omega, h'⟩
      | no => exact other rfl
      | tok k => exact other rfl
    | _ => exact other rfl
theorem nilObs_get : ∀ (n : Nat) (H : Hp), n ≤ H.length → H.length ≤ (nilObs n H).length ∧ (∀ k, n ≤ k → k < H.length → (nilObs n H)[k]? = H[k]?) ∧ (∀ k, k < n → (∀ cs, H[k]? ≠ some (.cells cs)) → (nilObs n H)[k]? = H[k]?) ∧
    ∀ i cs, i < n → H[i]? = some (.cells cs) → ∃ cs', (nilObs n H)[i]? = some (.cells cs') ∧ cs'.length = cs.length ∧
      (∀ (j : Nat) p, cs[j]? = some p → ((∀ sz m ds, p ≠ .sl .nil sz m ds) ∧ cs'[j]? = some p) ∨ ∃ sz m ds k, p = .sl .nil sz m ds ∧ cs'[j]? = some (.sl (.tok k) sz m ds) ∧ H.length ≤ k ∧ (nilObs n H)[k]? = some .tok) ∧
      ((PV.toksL cs).Nodup → (∀ k ∈ PV.toksL cs, k < H.length) → (PV.toksL cs').Nodup ∧ ∀ k ∈ PV.toksL cs', k ∈ PV.toksL cs ∨ H.length ≤ k)
  | 0, H, _ => ⟨Nat.le_refl _, fun _ _ _ => rfl, fun _ h => absurd h (Nat.not_lt_zero _), fun _ _ h => absurd h (Nat.not_lt_zero _)⟩
  | n + 1, H, hn => by
    obtain ⟨h1, h2, h3, h4⟩ := nilObs_get n H (by omega)
    have hnn := h2 n (Nat.le_refl _) (by omega)
    simp only [nilObs]
    split
    · rename_i cs hcs
      have hl := nilTs_len cs (nilObs n H)
      have hset : ∀ k, k ≠ n → ((nilTs cs (nilObs n H)).2.set n (.cells (nilTs cs (nilObs n H)).1))[k]? = (nilTs cs (nilObs n H)).2[k]? := fun k hk => List.getElem?_set_ne (fun h => hk h.symm)
      have hself : ((nilTs cs (nilObs n H)).2.set n (.cells (nilTs cs (nilObs n H)).1))[n]? = some (.cells (nilTs cs (nilObs n H)).1) := List.getElem?_set_self (by omega)
      have hHn : H[n]? = some (.cells cs) := by rw [← hnn]; exact hcs
      refine ⟨by rw [List.length_set]; omega, fun k hk hk2 => ?_, fun k hk hc => ?_, fun i ds hi hd => ?_⟩
      · rw [hset k (by omega), hl.2 k (by omega)]; exact h2 k (by omega) hk2
      · have hne : k ≠ n := fun e => by subst e; exact hc cs hHn
        rw [hset k hne, hl.2 k (by omega)]; exact h3 k (by omega) hc
      · by_cases hin : i = n
        · subst hin
          rw [hHn] at hd
          cases hd
          refine ⟨_, hself, (nilTs_get _ _).1, fun j p hp => ?_, fun hnd hlt => ?_⟩
          · rcases (nilTs_get cs (nilObs i H)).2 j p hp with h | ⟨sz, m, es, k, e1, e2, e3, e4⟩
            · exact .inl h
            · exact .inr ⟨sz, m, es, k, e1, e2, by omega, by rw [hset k (by omega)]; exact e4⟩
          · obtain ⟨g1, g2⟩ := nilTs_toks cs (nilObs i H) hnd (fun k hk => by have := hlt k hk; omega)
            exact ⟨g1, fun k hk => (g2 k hk).imp (fun h => h) (fun h => by omega)⟩
        · obtain ⟨ds', e1, e2, e3, e4⟩ := h4 i ds (by omega) hd
          refine ⟨ds', ?_, e2, fun j p hp => ?_, e4⟩
          · rw [hset i hin, hl.2 i (by omega)]; exact e1
          · rcases e3 j p hp with h | ⟨sz, m, es, k, f1, f2, f3, f4⟩
            · exact .inl h
            · refine .inr ⟨sz, m, es, k, f1, f2, f3, ?_⟩
              have hkl : k < (nilObs n H).length := (List.getElem?_eq_some_iff.1 f4).1
              rw [hset k (by omega), hl.2 k hkl]; exact f4
    · rename_i hnc
      refine ⟨h1, fun k hk hk2 => h2 k (by omega) hk2, fun k hk hc => ?_, fun i ds hi hd => ?_⟩
      · by_cases hkn : k = n
        · subst hkn; exact hnn
        · exact h3 k (by omega) hc
      · have hin : i ≠ n := fun e => by subst e; exact hnc ds (by rw [hnn]; exact hd)
        exact h4 i ds (by omega) hd
end Go.Proofs.YtnljpfjoboafoaaDoor.Ev
