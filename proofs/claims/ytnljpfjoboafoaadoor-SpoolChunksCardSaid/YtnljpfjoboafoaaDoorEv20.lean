/- The heap made small again: at a loop's head, at a function's end. -/
import Derived.Test.YtnljpfjoboafoaaDoorEv19
namespace Go.Proofs.YtnljpfjoboafoaaDoor.Ev
set_option linter.all false
open Go Go.RowKit

mutual
/-- The numbers of entries that a value holds. -/
def PV.toks : PV → List Nat
  | .sl (.tok k) _ _ _ => [k]
  | .row id _ _ _ => [id]
  | .ptr id _ => [id]
  | .fn _ cs => PV.toksL cs
  | .agg cs => PV.toksL cs
  | .tup cs => PV.toksL cs
  | _ => []
def PV.toksL : List PV → List Nat
  | [] => []
  | p :: r => p.toks ++ PV.toksL r
end
def isTok (H : Hp) (k : Nat) : Bool := match H[k]? with | some .tok => true | _ => false
def isCells (H : Hp) (k : Nat) : Bool := match H[k]? with | some (.cells _) => true | _ => false
def Ob.toks : Ob → List Nat
  | .cells cs => PV.toksL cs
  | _ => []
def dedup : List Nat → List Nat
  | [] => []
  | k :: r => if (dedup r).contains k then dedup r else k :: dedup r
theorem dedup_mem {k : Nat} : ∀ {l : List Nat}, k ∈ dedup l → k ∈ l
  | [], h => h
  | x :: r, h => by
    simp only [dedup] at h
    split at h
    · exact List.mem_cons_of_mem _ (dedup_mem h)
    · rcases List.mem_cons.1 h with rfl | h
      · simp
      · exact List.mem_cons_of_mem _ (dedup_mem h)
theorem dedup_nodup : ∀ l : List Nat, (dedup l).Nodup
  | [] => List.nodup_nil
  | x :: r => by
    simp only [dedup]
    split
    · exact dedup_nodup r
    · rename_i h
      exact List.nodup_cons.2 ⟨by simpa using h, dedup_nodup r⟩
/-- Rights, and rows and variables that are newer than the first n, are kept. -/
def kp (n : Nat) (H : Hp) (k : Nat) : Bool := isTok H k || (decide (n ≤ k) && isCells H k)
def obT (n : Nat) (H : Hp) (k : Nat) : List Nat := if n ≤ k then (match H[k]? with | some o => o.toks | none => []) else []
def reach (n : Nat) (H : Hp) : Nat → List Nat → List Nat
  | 0, l => l
  | d + 1, l => match l.flatMap (obT n H) with
    | [] => l
    | k :: r => l ++ reach n H d (k :: r)
/-- What is in use: by ps, by the first n variables, by what these hold. -/
def used (n : Nat) (ps : List PV) (H : Hp) : List Nat := dedup ((reach n H 4 (PV.toksL ps ++ (H.take n).flatMap Ob.toks)).filter (kp n H))
def renOf (n : Nat) (H : Hp) (ks : List Nat) : Nat → Option Nat := fun k => if k < n && isCells H k then some k else match ks.idxOf? k with | some j => some (n + j) | none => none
def keepOb (ρ : Nat → Option Nat) : Option Ob → Ob
  | some (.cells cs) => .cells (PV.rens ρ cs)
  | _ => .tok
def compact (n : Nat) (ps : List PV) (H : Hp) : List PV × Hp :=
  let ks := used n ps H
  (PV.rens (renOf n H ks) ps, ((H.take n).zipIdx.map fun (o, i) => match o with | .tok => (if ks.contains i then .dead else .tok) | .cells cs => .cells (PV.rens (renOf n H ks) cs) | .dead => .dead) ++ ks.map fun k => keepOb (renOf n H ks) H[k]?)

section
variable {P : Program} {g : Gh} {H : Hp} {w : World}

theorem isTok_iff {k : Nat} : isTok H k = true ↔ H[k]? = some .tok := by
  unfold isTok
  split
  · rename_i h; simp [h]
  · rename_i h; simp only [Bool.false_eq_true, false_iff]; exact h
theorem isCells_iff {k : Nat} : isCells H k = true ↔ ∃ cs, H[k]? = some (.cells cs) := by
  unfold isCells
  split
  · rename_i cs h; simp [h]
  · rename_i h; simp only [Bool.false_eq_true, false_iff, not_exists]; exact fun cs hc => h cs hc
theorem used_kp {n : Nat} {ps : List PV} {k : Nat} (h : k ∈ used n ps H) : H[k]? = some .tok ∨ (n ≤ k ∧ ∃ cs, H[k]? = some (.cells cs)) := by
  unfold used at h
  have h1 := (List.mem_filter.1 (dedup_mem h)).2
  simp only [kp, Bool.or_eq_true, Bool.and_eq_true, decide_eq_true_eq] at h1
  exact h1.imp isTok_iff.1 (fun h => ⟨h.1, isCells_iff.1 h.2⟩)
theorem used_nodup (n : Nat) (ps : List PV) (H : Hp) : (used n ps H).Nodup := dedup_nodup _

def muCpt (μ : Nat → Option (Nat × Nat × Nat)) (n : Nat) (ks : List Nat) : Nat → Option (Nat × Nat × Nat) := fun i => if i < n then μ i else match ks[i - n]? with | some k => μ k | none => none

theorem compact_len {n : Nat} (hn : n ≤ H.length) (ps : List PV) : (compact n ps H).2.length = n + (used n ps H).length := by simp [compact, hn]
theorem compact_old {n : Nat} (hn : n ≤ H.length) (ps : List PV) {i : Nat} (hi : i < n) : (compact n ps H).2[i]? = (H[i]?).map fun o => match o with | .tok => (if (used n ps H).contains i then .dead else .tok) | .cells cs => .cells (PV.rens (renOf n H (used n ps H)) cs) | .dead => .dead := by
  simp only [compact]
  rw [List.getElem?_append_left (by simp; omega)]
  simp only [List.getElem?_map, List.getElem?_zipIdx, List.getElem?_take, if_pos hi, Option.map_map, Nat.zero_add]
  rfl
theorem compact_new {n : Nat} (hn : n ≤ H.length) (ps : List PV) {i : Nat} (hi : n ≤ i) : (compact n ps H).2[i]? = ((used n ps H)[i - n]?).map fun k => keepOb (renOf n H (used n ps H)) H[k]? := by
  simp only [compact]
  rw [List.getElem?_append_right (by simp; omega)]
  simp [Nat.min_eq_left hn]

/-- What is known behind it. -/
theorem compact_ok (hI : Inv g H w) {n : Nat} (hn : n ≤ H.length) (ps : List PV) :
    ∃ g', Inv g' (compact n ps H).2 w ∧ RenOk (renOf n H (used n ps H)) g H g' (compact n ps H).2 ∧ g'.σ = g.σ ∧ (∀ i, i < n → g'.μ i = g.μ i) ∧ (∀ b, Owned g' (compact n ps H).2 b → Owned g H b) ∧
      (∀ i, i < n → (compact n ps H).2[i]? = some .tok → H[i]? = some .tok) := by
  obtain ⟨ks, hks⟩ : ∃ ks, used n ps H = ks := ⟨_, rfl⟩
  have hold : ∀ {i}, i < n → (compact n ps H).2[i]? = (H[i]?).map fun o => match o with | .tok => (if ks.contains i then .dead else .tok) | .cells cs => .cells (PV.rens (renOf n H ks) cs) | .dead => .dead := fun {i} hi => by rw [compact_old hn ps hi, hks]
  have hnew : ∀ {i}, n ≤ i → (compact n ps H).2[i]? = (ks[i - n]?).map fun k => keepOb (renOf n H ks) H[k]? := fun {i} hi => by rw [compact_new hn ps hi, hks]
  have hlen : (compact n ps H).2.length = n + ks.length := by rw [compact_len hn, hks]
  have htok : ∀ k ∈ ks, H[k]? = some .tok ∨ (n ≤ k ∧ ∃ cs, H[k]? = some (.cells cs)) := fun k hk => used_kp (ps := ps) (by rw [hks]; exact hk)
  have hnd : ks.Nodup := hks ▸ used_nodup n ps H
  have old_tok : ∀ {i}, i < n → (compact n ps H).2[i]? = some .tok → H[i]? = some .tok ∧ i ∉ ks := fun {i} hi h => by
    rw [hold hi] at h
    cases e : H[i]? with
    | none => rw [e] at h; cases h
    | some o =>
      rw [e] at h
      cases o with
      | dead => simp at h
      | cells cs => simp at h
      | tok =>
        simp only [Option.map_some, Option.some.injEq] at h
        split at h
        · cases h
        · rename_i hc; exact ⟨rfl, by simpa using hc⟩
  have old_cells : ∀ {i cs}, i < n → (compact n ps H).2[i]? = some (.cells cs) → ∃ ds, H[i]? = some (.cells ds) ∧ cs = PV.rens (renOf n H ks) ds := fun {i cs} hi h => by
    rw [hold hi] at h
    cases e : H[i]? with
    | none => rw [e] at h; cases h
    | some o =>
      rw [e] at h
      cases o with
      | dead => simp at h
      | cells ds => simp at h; exact ⟨ds, rfl, h.symm⟩
      | tok => simp only [Option.map_some, Option.some.injEq] at h; split at h <;> cases h
  have new_any : ∀ {i o}, n ≤ i → (compact n ps H).2[i]? = some o → ∃ k, ks[i - n]? = some k ∧ ((H[k]? = some .tok ∧ o = .tok) ∨ ∃ ds, H[k]? = some (.cells ds) ∧ o = .cells (PV.rens (renOf n H ks) ds)) := fun {i o} hi h => by
    rw [hnew hi] at h
    obtain ⟨k, h1, h2⟩ := Option.map_eq_some_iff.1 h
    refine ⟨k, h1, ?_⟩
    rcases htok k (List.mem_of_getElem? h1) with h3 | ⟨_, ds, h3⟩
    · rw [h3] at h2; exact .inl ⟨h3, h2.symm⟩
    · rw [h3] at h2; exact .inr ⟨ds, h3, h2.symm⟩
  have alive : ∀ {i}, Alive (compact n ps H).2 i → (i < n ∧ Alive H i ∧ i ∉ ks) ∨ (n ≤ i ∧ ∃ k, ks[i - n]? = some k ∧ Alive H k) := fun {i} h => by
    rcases Nat.lt_or_ge i n with hi | hi
    · refine .inl ⟨hi, ?_⟩
      rcases h with h | ⟨cs, h⟩
      · obtain ⟨h1, h2⟩ := old_tok hi h
        exact ⟨.inl h1, h2⟩
      · obtain ⟨ds, h1, h2⟩ := old_cells hi h
        refine ⟨.inr ⟨ds, h1⟩, fun h3 => ?_⟩
        rcases htok i h3 with h4 | ⟨h4, _⟩
        · rw [h1] at h4; cases h4
        · omega
    · refine .inr ⟨hi, ?_⟩
      have key : ∀ o, (compact n ps H).2[i]? = some o → ∃ k, ks[i - n]? = some k ∧ Alive H k := fun o h => by
        obtain ⟨k, h1, h2⟩ := new_any hi h
        exact ⟨k, h1, h2.elim (fun h => .inl h.1) (fun ⟨ds, h, _⟩ => .inr ⟨ds, h⟩)⟩
      rcases h with h | ⟨cs, h⟩
      · exact key _ h
      · exact key _ h
  have mu_old : ∀ {i x}, i < n → muCpt g.μ n ks i = x → g.μ i = x := fun {i x} hi h => by rw [← h]; exact (if_pos hi).symm
  have mu_new : ∀ {i k x}, n ≤ i → ks[i - n]? = some k → muCpt g.μ n ks i = x → g.μ k = x := fun {i k x} hi hk h => by
    rw [← h]
    unfold muCpt
    rw [if_neg (by omega), hk]
  have hren : RenOk (renOf n H ks) g H ⟨g.σ, muCpt g.μ n ks⟩ (compact n ps H).2 := by
    have cases_ : ∀ k k', renOf n H ks k = some k' → (k' = k ∧ k < n ∧ ∃ cs, H[k]? = some (.cells cs)) ∨ (∃ j, ks[j]? = some k ∧ k' = n + j) := fun k k' h => by
      unfold renOf at h
      split at h
      · rename_i hc
        cases h
        simp only [Bool.and_eq_true, decide_eq_true_eq] at hc
        exact .inl ⟨rfl, hc.1, isCells_iff.1 hc.2⟩
      · split at h
        · rename_i j hj
          cases h
          refine .inr ⟨j, ?_, rfl⟩
          rw [List.idxOf?_eq_some_iff] at hj
          obtain ⟨h1, h2, _⟩ := hj
          rw [List.getElem?_eq_getElem h1]
          simpa using h2
        · cases h
    refine ⟨fun _ _ _ h => h, fun k k' h hk => ?_, fun k k' x h hk hx => ?_, fun k k' h hk ht => ?_⟩
    · rcases cases_ k k' h with ⟨rfl, h1, _⟩ | ⟨j, h1, rfl⟩
      · rw [hlen]; omega
      · have := (List.getElem?_eq_some_iff.1 h1).1
        rw [hlen]; omega
    · rcases cases_ k k' h with ⟨rfl, h1, _⟩ | ⟨j, h1, rfl⟩
      · show muCpt g.μ n ks k' = some x
        unfold muCpt
        rw [if_pos h1]; exact hx
      · show muCpt g.μ n ks (n + j) = some x
        unfold muCpt
        rw [if_neg (by omega), show n + j - n = j by omega, h1]; exact hx
    · rcases cases_ k k' h with ⟨rfl, h1, cs, h2⟩ | ⟨j, h1, rfl⟩
      · have := (old_tok h1 ht).1
        rw [h2] at this; cases this
      · obtain ⟨k0, h2, h3⟩ := new_any (Nat.le_add_right n j) ht
        rw [show n + j - n = j by omega, h1] at h2
        cases h2
        refine ⟨h3.elim (fun h => h.1) (fun ⟨_, _, h⟩ => by cases h), ?_⟩
        show muCpt g.μ n ks (n + j) = g.μ k
        unfold muCpt
        rw [if_neg (by omega), show n + j - n = j by omega, h1]
  refine ⟨⟨g.σ, muCpt g.μ n ks⟩, ⟨hI.σw, hI.one, hI.z, fun id b e top ha hm => ?_, fun id cs b e top hc hm => ?_, fun id id' b e top e' top' ha ha' hm hm' => ?_, fun b hb => ?_⟩, by rw [hks]; exact hren, rfl, fun i hi => if_pos hi, fun b ⟨id, e, top, ha, hm⟩ => ?_, fun i hi h => (old_tok hi h).1⟩
  · rcases alive ha with ⟨hi, h1, _⟩ | ⟨hi, k, h1, h2⟩
    · exact hI.blk id b e top h1 (mu_old hi hm)
    · exact hI.blk k b e top h2 (mu_new hi h1 hm)
  · rcases Nat.lt_or_ge id n with hi | hi
    · obtain ⟨ds, h1, rfl⟩ := old_cells hi hc
      obtain ⟨h3, us, h4, h5⟩ := hI.obj id ds b e top h1 (mu_old hi hm)
      exact ⟨by rw [PV.rens_eq, List.length_map]; exact h3, us, RVs.ren hren h4, h5⟩
    · obtain ⟨k, h1, h2⟩ := new_any hi hc
      rcases h2 with ⟨_, h2⟩ | ⟨ds, h2, h2'⟩
      · cases h2
      · cases h2'
        obtain ⟨h3, us, h4, h5⟩ := hI.obj k ds b e top h2 (mu_new hi h1 hm)
        exact ⟨by rw [PV.rens_eq, List.length_map]; exact h3, us, RVs.ren hren h4, h5⟩
  · rcases alive ha with ⟨hi, h1, h1'⟩ | ⟨hi, k, h1, h2⟩ <;> rcases alive ha' with ⟨hi', h3, h3'⟩ | ⟨hi', k', h3, h4⟩
    · exact hI.dist id id' b e top e' top' h1 h3 (mu_old hi hm) (mu_old hi' hm')
    · have := hI.dist id k' b e top e' top' h1 h4 (mu_old hi hm) (mu_new hi' h3 hm')
      subst this
      exact absurd (List.mem_of_getElem? h3) h1'
    · have := hI.dist k id' b e top e' top' h2 h3 (mu_new hi h1 hm) (mu_old hi' hm')
      subst this
      exact absurd (List.mem_of_getElem? h1) h3'
    · have := hI.dist k k' b e top e' top' h2 h4 (mu_new hi h1 hm) (mu_new hi' h3 hm')
      subst this
      have h5 := (List.getElem?_eq_some_iff.1 h1)
      have h6 := (List.getElem?_eq_some_iff.1 h3)
      obtain ⟨h5a, h5b⟩ := h5
      obtain ⟨h6a, h6b⟩ := h6
      have := (List.getElem_inj (h₀ := h5a) (h₁ := h6a) hnd).1 (h5b.trans h6b.symm)
      omega
  · obtain ⟨cs, el, fr, h4, h5, h6⟩ := hI.c b hb
    refine ⟨cs, el, fr, h4, h5, fun ⟨id, e, top, ha, hm⟩ => h6 ?_⟩
    rcases alive ha with ⟨hi, h1, _⟩ | ⟨hi, k, h1, h2⟩
    · exact ⟨id, e, top, h1, mu_old hi hm⟩
    · exact ⟨k, e, top, h2, mu_new hi h1 hm⟩
  · rcases alive ha with ⟨hi, h1, _⟩ | ⟨hi, k, h1, h2⟩
    · exact ⟨id, e, top, h1, mu_old hi hm⟩
    · exact ⟨k, e, top, h2, mu_new hi h1 hm⟩

/-- The same, seen from where the heap had at most n entries. -/
theorem compact_ext (hI : Inv g H w) {n : Nat} (hn : n ≤ H.length) (ps : List PV) {g0 : Gh} {H0 : Hp} {w0 : World} (h0 : H0.length ≤ n) (hE : Ext g0 H0 w0 g H w) :
    ∃ g', Inv g' (compact n ps H).2 w ∧ RenOk (renOf n H (used n ps H)) g H g' (compact n ps H).2 ∧ Ext g0 H0 w0 g' (compact n ps H).2 w := by
  obtain ⟨g', h1, h2, h3, h4, h5, h6⟩ := compact_ok hI hn ps
  refine ⟨g', h1, h2, ⟨by rw [h3]; exact hE.σ, fun id hid => by rw [h4 id (by omega)]; exact hE.μ id hid, by rw [compact_len hn]; omega, fun k hk ht => ?_, hE.os, hE.tape, hE.output, hE.size, hE.frame, fun k o hk ho => by rw [h3]; exact hE.σf k o hk ho, fun k hk => hE.own k (h5 k hk)⟩⟩
  obtain ⟨h7, h8⟩ := hE.tok k hk (h6 k (by omega) ht)
  exact ⟨h7, by rw [h4 k (by omega)]; exact h8⟩
end
end Go.Proofs.YtnljpfjoboafoaaDoor.Ev
