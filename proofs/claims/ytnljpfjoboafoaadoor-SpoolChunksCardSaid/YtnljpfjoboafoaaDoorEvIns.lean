/- slices.Insert of one number into a row of numbers that is written in place. -/
import Derived.Test.YtnljpfjoboafoaaDoorEvL
import Derived.Shelf.Spec.SlicesInsertGrow
namespace Go.Proofs.YtnljpfjoboafoaaDoor.Ev
set_option linter.all false
open Go Go.RowKit

section
variable {P : Program} {f : FuncId} {g : Gh} {H : Hp} {w w' : World}
/-- An entry's cells written anew, and more behind them. -/
theorem put_any (hI : Inv g H w) {k b e top : Nat} {cs newP : List PV} (hk : H[k]? = some (.cells cs) ∨ (H[k]? = some .tok ∧ cs = [])) (hm : g.μ k = some (b, e, top)) {new : List Value} (hr : RVs g H newP new)
    (hl : e + new.length ≤ top) {carr carr' : Array Value} {el : TypeId} {fr : Nat × Nat} (hb0 : w.heap[b]? = some (.cells carr el fr)) (hb' : w'.heap[b]? = some (.cells carr' el fr)) (hsz' : carr'.size = carr.size)
    (hoth : ∀ j, j ≠ b → w'.heap[j]? = w.heap[j]?) (hsz : w'.heap.size = w.heap.size) (hos : w'.os = w.os) (htp : w'.tape = w.tape) (hout : w'.output = w.output)
    (hlow : ∀ o, o < e → w'.cell? ⟨b, o, none⟩ = w.cell? ⟨b, o, none⟩) (hnew : ∀ (i : Nat) v, new[i]? = some v → w'.cell? ⟨b, e + i, none⟩ = some v) :
    ∃ g', Inv g' (H.set k .dead ++ [.cells newP]) w' ∧ Ext g H w g' (H.set k .dead ++ [.cells newP]) w' ∧ g'.μ H.length = some (b, e, top) := by
  have hka : Alive H k := hk.elim (fun h => .inr ⟨cs, h⟩) (fun h => .inl h.1)
  obtain ⟨carr0, el0, fr0, hb, he, ht, hf, hs⟩ := hI.blk k b e top hka hm
  rw [hb0] at hb
  cases hb
  have hklt : k < H.length := hka.lt
  refine ⟨⟨g.σ, muPut g.μ H.length (some (b, e, top))⟩, ?_⟩
  have hnot : ∀ id b' e' top', id ≠ k → Alive H id → g.μ id = some (b', e', top') → b' ≠ b := fun id b' e' top' hne ha hm' heq => by
    subst heq
    exact hne (hI.dist id k b' e' top' e top ha hka hm' hm)
  have hE : Ext g H w ⟨g.σ, muPut g.μ H.length (some (b, e, top))⟩ (H.set k .dead ++ [.cells newP]) w' := by
    refine ⟨fun _ _ _ h => h, fun id hid => muPut_ne (by omega), by simp, fun i hi ht' => ?_, hos, htp, hout, by omega, fun i hi ho => hoth i (fun heq => ho ⟨k, e, top, hka, heq ▸ hm⟩), fun i o hi ho => rfl, fun i hi => ?_⟩
    · rcases get_kill_any ht' (by simp) with ⟨h, _⟩ | ⟨_, _, h⟩
      · omega
      · exact ⟨h, muPut_ne (by omega)⟩
    · obtain ⟨id, e', top', ha, hm'⟩ := hi
      rcases alive_kill_any ha with h | ⟨hl', hne, ha'⟩
      · subst h
        have hm2 : some (b, e, top) = some (i, e', top') := by rw [← hm']; exact (muPut_self _ _ _).symm
        cases hm2
        exact .inl ⟨k, e, top, hka, hm⟩
      · have hm2 : g.μ id = some (i, e', top') := by rw [← hm']; exact (muPut_ne (by omega)).symm
        exact .inl ⟨id, e', top', ha', hm2⟩
  refine ⟨⟨fun b' o v hv => ?_, hI.one, hI.z, fun id b' e' top' ha hm' => ?_, fun id cs' b' e' top' hc hm' => ?_, fun id id' b' e' top' e2 top2 ha ha2 hm' hm2 => ?_, hI.c.ext hE⟩, hE, muPut_self _ _ _⟩
  · by_cases hbb : b' = b
    · subst hbb
      rcases Nat.lt_or_ge o e with hoe | hoe
      · rw [hlow o hoe]
        exact hI.σw b' o v hv
      · have hv' : g.σ b' o = some v := hv
        rw [hs o hoe] at hv'
        cases hv'
    · rw [World.cell?_of_block (w := w) (hoth b' hbb)]
      exact hI.σw b' o v hv
  · rcases alive_kill_any ha with h | ⟨hl', hne, ha'⟩
    · subst h
      have hm3 : some (b, e, top) = some (b', e', top') := by rw [← hm']; exact (muPut_self _ _ _).symm
      cases hm3
      exact ⟨carr', el, fr, hb', he, by omega, by rw [hsz']; exact hf, hs⟩
    · have hm3 : g.μ id = some (b', e', top') := by rw [← hm']; exact (muPut_ne (by omega)).symm
      have hbb := hnot id b' e' top' hne ha' hm3
      obtain ⟨c2, el2, fr2, h2, h3, h4, h5, h6⟩ := hI.blk id b' e' top' ha' hm3
      exact ⟨c2, el2, fr2, by rw [hoth b' hbb]; exact h2, h3, h4, h5, h6⟩
  · rcases get_kill_any hc (by simp) with ⟨h, hob⟩ | ⟨hl', hne, hc'⟩
    · subst h
      cases hob
      have hm3 : some (b, e, top) = some (b', e', top') := by rw [← hm']; exact (muPut_self _ _ _).symm
      cases hm3
      have hrl := hr.length
      exact ⟨by omega, new, hr.ext hE, hnew⟩
    · have hm3 : g.μ id = some (b', e', top') := by rw [← hm']; exact (muPut_ne (by omega)).symm
      have hbb := hnot id b' e' top' hne (.inr ⟨cs', hc'⟩) hm3
      obtain ⟨h3, us', h4, h5⟩ := hI.obj id cs' b' e' top' hc' hm3
      exact ⟨h3, us', h4.ext hE, fun i v hv => by
        rw [World.cell?_of_block (w := w) (hoth b' hbb)]
        exact h5 i v hv⟩
  · rcases alive_kill_any ha with h | ⟨hl', hne, ha'⟩ <;> rcases alive_kill_any ha2 with h2 | ⟨hl2, hne2, ha2'⟩
    · rw [h, h2]
    · subst h
      have hm3 : some (b, e, top) = some (b', e', top') := by rw [← hm']; exact (muPut_self _ _ _).symm
      cases hm3
      have hm4 : g.μ id' = some (b, e2, top2) := by rw [← hm2]; exact (muPut_ne (by omega)).symm
      exact absurd rfl (hnot id' b e2 top2 hne2 ha2' hm4)
    · subst h2
      have hm3 : some (b, e, top) = some (b', e2, top2) := by rw [← hm2]; exact (muPut_self _ _ _).symm
      cases hm3
      have hm4 : g.μ id = some (b, e', top') := by rw [← hm']; exact (muPut_ne (by omega)).symm
      exact absurd rfl (hnot id b e' top' hne ha' hm4)
    · have hm3 : g.μ id = some (b', e', top') := by rw [← hm']; exact (muPut_ne (by omega)).symm
      have hm4 : g.μ id' = some (b', e2, top2) := by rw [← hm2]; exact (muPut_ne (by omega)).symm
      exact hI.dist id id' b' e' top' e2 top2 ha' ha2' hm3 hm4
/-- A block that a callee made, as an entry. -/
theorem growC (hI : Inv g H w) (hB : Below w.heap.size w w') {k : Nat} (hk : w.heap.size ≤ k) {carr : Array Value} {el : TypeId} {fr : Nat × Nat} (hw : w'.heap[k]? = some (.cells carr el fr))
    {cs : List PV} {us : List Value} (hr : RVs g H cs us) (hus : ∀ (i : Nat) v, us[i]? = some v → carr[i]? = some v) (hl : us.length ≤ carr.size) (hf : FrOk fr carr.size) :
    ∃ g', Inv g' (H ++ [.cells cs]) w' ∧ Ext g H w g' (H ++ [.cells cs]) w' ∧ g'.μ H.length = some (k, 0, carr.size) := by
  have ha' : ∀ id, id < H.length → (Alive (H ++ [.cells cs]) id ↔ Alive H id) := fun id hid => by unfold Alive; rw [get_append_old H _ hid]
  have hkl : k < w'.heap.size := by
    rcases Nat.lt_or_ge k w'.heap.size with h | h
    · exact h
    · rw [Array.getElem?_eq_none h] at hw; cases hw
  have hE : Ext g H w ⟨g.σ, muPut g.μ H.length (some (k, 0, carr.size))⟩ (H ++ [.cells cs]) w' := by
    refine ⟨fun _ _ _ h => h, fun id hid => muPut_ne (by omega), by simp, fun i hi hi' => ?_, hB.os, hB.tape, hB.output, hB.size, fun i hi _ => hB.block i hi, fun b o hb _ => rfl, fun b hb => ?_⟩
    · rw [get_append_old H _ hi] at hi'
      exact ⟨hi', muPut_ne (by omega)⟩
    · obtain ⟨id, e, tp, ha, hm⟩ := hb
      by_cases hid : id < H.length
      · have hm' : g.μ id = some (b, e, tp) := by rw [← hm]; exact (muPut_ne (by omega)).symm
        exact .inl ⟨id, e, tp, (ha' id hid).1 ha, hm'⟩
      · have := alive_append_one ha (by omega)
        subst this
        have hm' : some (k, 0, carr.size) = some (b, e, tp) := by rw [← hm]; exact (muPut_self _ _ _).symm
        cases hm'
        exact .inr hk
  refine ⟨⟨g.σ, muPut g.μ H.length (some (k, 0, carr.size))⟩, ⟨fun b o v hv => cell_below hB (hI.σw b o v hv), hI.one, hI.z, fun id b e tp ha hm => ?_, fun id ds b e tp hc hm => ?_, fun id id' b e tp e' tp' ha hb hm hm' => ?_, hI.c.ext hE⟩, hE, muPut_self _ _ _⟩
  · by_cases hid : id < H.length
    · have hm' : g.μ id = some (b, e, tp) := by rw [← hm]; exact (muPut_ne (by omega)).symm
      have hal := (ha' id hid).1 ha
      obtain ⟨carr', el', fr', h4, h5, h6, h7, h8⟩ := hI.blk id b e tp hal hm'
      have hb := hI.lt hal hm'
      exact ⟨carr', el', fr', by rw [hB.block b hb]; exact h4, h5, h6, h7, h8⟩
    · have := alive_append_one ha (by omega)
      subst this
      have hm' : some (k, 0, carr.size) = some (b, e, tp) := by rw [← hm]; exact (muPut_self _ _ _).symm
      cases hm'
      exact ⟨carr, el, fr, hw, Nat.zero_le _, Nat.le_refl _, hf, fun o ho => hI.σ_new _ hk⟩
  · by_cases hid : id < H.length
    · have hm' : g.μ id = some (b, e, tp) := by rw [← hm]; exact (muPut_ne (by omega)).symm
      rw [get_append_old H _ hid] at hc
      obtain ⟨h5, us, h6, h7⟩ := hI.obj id ds b e tp hc hm'
      exact ⟨h5, us, h6.ext hE, fun i v hv => cell_below hB (h7 i v hv)⟩
    · have := alive_append_one (.inr ⟨ds, hc⟩) (by omega)
      subst this
      rw [get_append_self] at hc
      cases hc
      have hm' : some (k, 0, carr.size) = some (b, e, tp) := by rw [← hm]; exact (muPut_self _ _ _).symm
      cases hm'
      have hrl := hr.length
      refine ⟨by omega, us, hr.ext hE, fun i v hv => ?_⟩
      have := hus i v hv
      rw [Nat.zero_add]
      unfold World.cell?
      simp only [hw]
      simpa using this
  · by_cases hid : id < H.length
    · have hm1 : g.μ id = some (b, e, tp) := by rw [← hm]; exact (muPut_ne (by omega)).symm
      have hal := (ha' id hid).1 ha
      have hb' := hI.lt hal hm1
      by_cases hid' : id' < H.length
      · have hm2 : g.μ id' = some (b, e', tp') := by rw [← hm']; exact (muPut_ne (by omega)).symm
        exact hI.dist id id' b e tp e' tp' hal ((ha' id' hid').1 hb) hm1 hm2
      · have := alive_append_one hb (by omega)
        subst this
        have hm2 : some (k, 0, carr.size) = some (b, e', tp') := by rw [← hm']; exact (muPut_self _ _ _).symm
        cases hm2
        omega
    · have := alive_append_one ha (by omega)
      subst this
      have hm1 : some (k, 0, carr.size) = some (b, e, tp) := by rw [← hm]; exact (muPut_self _ _ _).symm
      cases hm1
      by_cases hid' : id' < H.length
      · have hm2 : g.μ id' = some (k, e', tp') := by rw [← hm']; exact (muPut_ne (by omega)).symm
        have := hI.lt ((ha' id' hid').1 hb) hm2
        omega
      · exact (alive_append_one hb (by omega)).symm

/-- One number put into a row of numbers. -/
def ovIns : List PV → Hp → Option (PV × Hp)
  | [.row id 0 1 n, .int .i64 i, .sl (.tok k) 1 1 [.int .i64 y]], H => match H[id]?, H[k]? with
    | some (.cells cs), some .tok => if cs.length = n ∧ cs.all PV.one = true ∧ 0 ≤ i ∧ i ≤ n ∧ n + 1 ≤ 1000000000000 then some (.row H.length 0 1 (n + 1), H.set id .dead ++ [.cells (cs.take i.toNat ++ [.int .i64 y] ++ cs.drop i.toNat)]) else none
    | _, _ => none
  | [.sl (.tok j) z 0 [], .int .i64 0, .sl (.tok k) 1 1 [.int .i64 y]], H => match H[j]?, H[k]? with
    | some .tok, some .tok => if (z = 1 ∨ z = 0) ∧ j ≠ k then some (.row H.length 0 1 1, H.set j .dead ++ [.cells [.int .i64 y]]) else none
    | _, _ => none
  | _, _ => none
/-- The four roads, as the shelf tells them. -/
structure InsAt (P : Program) (f : FuncId) (T : TypeId) : Prop where
  shift : ∀ (b off n c i vb voff m vc : Nat) (cs vs : List Value) (w : World), i < n → 0 < m → n + m ≤ c → c ≤ 9223372036854775807 → vb ≠ b → cs.length = n → vs.length = m →
    (∀ j v, cs[j]? = some v → w.cell? ⟨b, off + j, none⟩ = some v) → (∀ j, j < n + m → (w.cell? ⟨b, off + j, none⟩).isSome = true) → (∀ j, j < n + m → w.frozen? ⟨b, off + j, none⟩ = false) →
    (∀ j v, vs[j]? = some v → w.cell? ⟨vb, voff + j, none⟩ = some v) → (∀ v ∈ cs, v.oneCell' = true) → (∀ v ∈ vs, v.oneCell' = true) →
    ∀ (tA tB : TypeId) (kA kB : Nat), w.shape? vb = some (tA, kA) → w.shape? b = some (tB, kB) → kB ≠ 0 → w.frozen? ⟨vb, voff, none⟩ = false → w.frozen? ⟨vb, kA, none⟩ = false →
    Calls P f #[.slice (some ⟨b, off, none⟩) n c, .int .i64 i, .slice (some ⟨vb, voff, none⟩) m vc] w fun e w' =>
      e = .returned (.slice (some ⟨b, off, none⟩) (n + m) c) ∧ w' = (w.drew.setCells b (off + (i + m)) (cs.drop i)).setCells b (off + i) vs
  room : ∀ (b off n c vb voff m vc : Nat) (vs : List Value) (w : World), 0 < m → n + m ≤ c → c ≤ 9223372036854775807 → vs.length = m →
    (∀ j, j < m → (w.cell? ⟨b, off + n + j, none⟩).isSome = true) → (∀ j, j < m → w.frozen? ⟨b, off + n + j, none⟩ = false) →
    (∀ j v, vs[j]? = some v → w.cell? ⟨vb, voff + j, none⟩ = some v) → (∀ v ∈ vs, v.oneCell' = true) →
    Calls P f #[.slice (some ⟨b, off, none⟩) n c, .int .i64 n, .slice (some ⟨vb, voff, none⟩) m vc] w fun e w' =>
      e = .returned (.slice (some ⟨b, off, none⟩) (n + m) c) ∧ w' = w.setCells b (off + n) vs
  grow : ∀ (base : Option Addr) (n c vb voff m vc : Nat) (cs vs : List Value) (w : World), 0 < m → n ≤ c → c < n + m → (n + m) * 8 ≤ 140737488355328 → cs.length = n → vs.length = m → (base = none → n = 0) →
    (∀ a, base = some a → ∀ j v, cs[j]? = some v → w.cell? (a.add j) = some v) → (∀ j v, vs[j]? = some v → w.cell? ⟨vb, voff + j, none⟩ = some v) → (∀ v ∈ vs, v.oneCell' = true) →
    Calls P f #[.slice base n c, .int .i64 n, .slice (some ⟨vb, voff, none⟩) m vc] w fun e w' =>
      e = .returned (.slice (some ⟨w.heap.size, 0, none⟩) (n + m) (grownCap w (n + m) c T)) ∧
      w' = w.drew.alloc (.cells ((cs ++ vs).toArray ++ Builtin.zeroCells (Value.int .i64 0).cells (grownCap w (n + m) c T - (n + m))) T)
  mid : ∀ (b off n c i vb voff m vc : Nat) (cs vs : List Value) (w : World), i < n → 0 < m → n ≤ c → c < n + m → (n + m) * 8 ≤ 140737488355328 → cs.length = n → vs.length = m →
    (∀ j v, cs[j]? = some v → w.cell? ⟨b, off + j, none⟩ = some v) → (∀ j v, vs[j]? = some v → w.cell? ⟨vb, voff + j, none⟩ = some v) → (∀ v ∈ cs, v.oneCell' = true) → (∀ v ∈ vs, v.oneCell' = true) →
    Calls P f #[.slice (some ⟨b, off, none⟩) n c, .int .i64 i, .slice (some ⟨vb, voff, none⟩) m vc] w fun e w' =>
      e = .returned (.slice (some ⟨w.heap.size, 0, none⟩) (n + m) (grownCap w (n + m) c T)) ∧
      w' = (((w.alloc (.cells ((cs.take i).toArray ++ Builtin.zeroCells (Value.int .i64 0).cells (n + m - i) ++ Builtin.zeroCells (Value.int .i64 0).cells (grownCap w (n + m) c T - (n + m))) T)).drew.setCells w.heap.size i vs).drew).setCells w.heap.size (i + m) (cs.drop i)
theorem FrOk.eq (hmk : marks = false) {fr : Nat × Nat} {n : Nat} (h : FrOk fr n) : fr.1 = fr.2 := by
  rcases h with h | ⟨h, _⟩
  · exact h
  · rw [hmk] at h; cases h
theorem one_arg (hmk : marks = false) (hI : Inv g H w) {k : Nat} {y : Int} {v : Value} (hk : H[k]? = some .tok) (h : RV g H (.sl (.tok k) 1 1 [.int .i64 y]) v) :
    ∃ vb voff vc ve vt, v = .slice (some ⟨vb, voff, none⟩) 1 vc ∧ g.μ k = some (vb, ve, vt) ∧ (∀ (j : Nat) u, [Value.int .i64 y][j]? = some u → w.cell? ⟨vb, voff + j, none⟩ = some u) ∧
      ∃ tA kA, w.shape? vb = some (tA, kA) ∧ w.frozen? ⟨vb, voff, none⟩ = false ∧ w.frozen? ⟨vb, kA, none⟩ = false := by
  simp only [RV] at h
  obtain ⟨_, hrc, hown⟩ := h
  have hown := hown hk
  simp only [RC] at hrc
  obtain ⟨_, A, cap, rfl, _, _, _, hx⟩ := hrc
  obtain ⟨b, off, us, rfl, hho, hrs⟩ := hx (by decide)
  simp only [RCs, RC] at hrs
  obtain ⟨_, _, rfl, rfl, rfl⟩ := hrs
  unfold OwnAt at hown
  cases hm : g.μ k with
  | none =>
    rw [hm] at hown
    obtain ⟨_, hv⟩ := hown
    simp at hv
  | some q =>
    obtain ⟨vb, ve, vt⟩ := q
    rw [hm] at hown
    obtain ⟨_, off', n', cap', hv, _⟩ := hown
    simp only [Value.slice.injEq, Option.some.injEq, Addr.mk.injEq, and_true] at hv
    obtain ⟨⟨rfl, rfl⟩, _, _⟩ := hv
    obtain ⟨carr, el, fr, hb, _, _, hf, _⟩ := hI.blk k _ ve vt (.inl hk) hm
    have hfe := hf.eq hmk
    exact ⟨b, off, cap, ve, vt, rfl, rfl, fun j u hu => hI.σw _ _ _ (hho j u hu), el, carr.size, by simp [World.shape?, hb], cell_frozen hb (by omega), cell_frozen hb (by omega)⟩
theorem get3 {us : List Value} {y : Value} {i j : Nat} {v : Value} (hi : i ≤ us.length) (h : (us.take i ++ [y] ++ us.drop i)[j]? = some v) : (j < i ∧ us[j]? = some v) ∨ (j = i ∧ v = y) ∨ (i < j ∧ (us.drop i)[j - (i + 1)]? = some v) := by
  have hl : (us.take i).length = i := by rw [List.length_take]; omega
  rcases Nat.lt_trichotomy j i with h1 | h1 | h1
  · rw [List.append_assoc, List.getElem?_append_left (by omega), List.getElem?_take, if_pos h1] at h
    exact .inl ⟨h1, h⟩
  · subst h1
    rw [List.append_assoc, List.getElem?_append_right (by omega), hl, Nat.sub_self] at h
    simp at h
    exact .inr (.inl ⟨rfl, h.symm⟩)
  · rw [List.getElem?_append_right (by simp; omega), List.length_append, hl, List.length_singleton] at h
    exact .inr (.inr ⟨h1, h⟩)
theorem shift_cells (b o i : Nat) (us : List Value) (y : Value) (w : World) (hi : i ≤ us.length) (hc : ∀ (j : Nat) v, us[j]? = some v → w.cell? ⟨b, o + j, none⟩ = some v) (hs : ∀ j, j < us.length + 1 → (w.cell? ⟨b, o + j, none⟩).isSome = true)
    (j : Nat) (v : Value) (h : (us.take i ++ [y] ++ us.drop i)[j]? = some v) : ((w.setCells b (o + (i + 1)) (us.drop i)).setCells b (o + i) [y]).cell? ⟨b, o + j, none⟩ = some v := by
  have hdl : (us.drop i).length = us.length - i := by simp
  have hs1 : ∀ k, k < (us.drop i).length → (w.cell? ⟨b, o + (i + 1) + k, none⟩).isSome = true := fun k hk => by
    have := hs (i + 1 + k) (by omega)
    rwa [show o + (i + 1 + k) = o + (i + 1) + k by omega] at this
  have ho2 : ∀ k, k ≠ i → ((w.setCells b (o + (i + 1)) (us.drop i)).setCells b (o + i) [y]).cell? ⟨b, o + k, none⟩ = (w.setCells b (o + (i + 1)) (us.drop i)).cell? ⟨b, o + k, none⟩ := fun k hk =>
    World.cell?_setCells_out b [y] (o + i) _ ⟨b, o + k, none⟩ (fun _ _ => by
      rcases Nat.lt_or_ge k i with h | h
      · exact .inl (by show o + k < o + i; omega)
      · exact .inr (by show o + i + 1 ≤ o + k; omega))
  rcases get3 hi h with ⟨h1, h2⟩ | ⟨rfl, rfl⟩ | ⟨h1, h2⟩
  · rw [ho2 j (by omega), World.cell?_setCells_out b (us.drop i) (o + (i + 1)) w ⟨b, o + j, none⟩ (fun _ _ => .inl (by show o + j < o + (i + 1); omega))]
    exact hc j v h2
  · have hs2 : ∀ k, k < [v].length → ((w.setCells b (o + (j + 1)) (us.drop j)).cell? ⟨b, o + j + k, none⟩).isSome = true := fun k hk => by
      have : k = 0 := by simpa using hk
      subst this
      rw [World.cell?_setCells_out b (us.drop j) (o + (j + 1)) w ⟨b, o + j + 0, none⟩ (fun _ _ => .inl (by show o + j + 0 < o + (j + 1); omega))]
      exact hs j (by omega)
    have := World.cell?_setCells_in b [v] (o + j) _ hs2 0 (by simp)
    simpa using this
  · have hlt : j - (i + 1) < (us.drop i).length := (List.getElem?_eq_some_iff.1 h2).1
    rw [ho2 j (by omega)]
    have := World.cell?_setCells_in b (us.drop i) (o + (i + 1)) w hs1 (j - (i + 1)) hlt
    rw [show o + (i + 1) + (j - (i + 1)) = o + j by omega] at this
    rw [this]
    rw [List.getElem?_eq_getElem hlt] at h2
    exact h2
theorem mid_cells (b i : Nat) (us : List Value) (y : Value) (w : World) (hi : i ≤ us.length) (hc : ∀ j v, j < i → us[j]? = some v → w.cell? ⟨b, j, none⟩ = some v) (hs : ∀ j, j < us.length + 1 → (w.cell? ⟨b, j, none⟩).isSome = true)
    (j : Nat) (v : Value) (h : (us.take i ++ [y] ++ us.drop i)[j]? = some v) : ((w.setCells b i [y]).setCells b (i + 1) (us.drop i)).cell? ⟨b, j, none⟩ = some v := by
  have hdl : (us.drop i).length = us.length - i := by simp
  have ho1 : ∀ k, k ≠ i → (w.setCells b i [y]).cell? ⟨b, k, none⟩ = w.cell? ⟨b, k, none⟩ := fun k hk =>
    World.cell?_setCells_out b [y] i _ ⟨b, k, none⟩ (fun _ _ => by
      rcases Nat.lt_or_ge k i with h | h
      · exact .inl (by show k < i; omega)
      · exact .inr (by show i + 1 ≤ k; omega))
  have hs2 : ∀ k, k < (us.drop i).length → ((w.setCells b i [y]).cell? ⟨b, i + 1 + k, none⟩).isSome = true := fun k hk => by
    rw [ho1 _ (by omega)]; exact hs _ (by omega)
  have ho2 : ∀ k, k ≤ i → ((w.setCells b i [y]).setCells b (i + 1) (us.drop i)).cell? ⟨b, k, none⟩ = (w.setCells b i [y]).cell? ⟨b, k, none⟩ := fun k hk =>
    World.cell?_setCells_out b (us.drop i) (i + 1) _ ⟨b, k, none⟩ (fun _ _ => .inl (by show k < i + 1; omega))
  rcases get3 hi h with ⟨h1, h2⟩ | ⟨rfl, rfl⟩ | ⟨h1, h2⟩
  · rw [ho2 j (by omega), ho1 j (by omega)]
    exact hc j v h1 h2
  · rw [ho2 j (Nat.le_refl _)]
    have hs1 : ∀ k, k < [v].length → (w.cell? ⟨b, j + k, none⟩).isSome = true := fun k hk => by
      have : k = 0 := by simpa using hk
      subst this
      exact hs j (by omega)
    have := World.cell?_setCells_in b [v] j w hs1 0 (by simp)
    simpa using this
  · have hlt : j - (i + 1) < (us.drop i).length := (List.getElem?_eq_some_iff.1 h2).1
    have := World.cell?_setCells_in b (us.drop i) (i + 1) _ hs2 (j - (i + 1)) hlt
    rw [show i + 1 + (j - (i + 1)) = j by omega] at this
    rw [this]
    rw [List.getElem?_eq_getElem hlt] at h2
    exact h2
theorem alloc_new (w : World) (A : Array Value) (T : TypeId) : Below w.heap.size w (w.drew.alloc (.cells A T)) ∧ (w.drew.alloc (.cells A T)).heap[w.heap.size]? = some (.cells A T (0, 0)) := by
  have hh : (w.drew.alloc (.cells A T)).heap = w.heap.push (.cells A T (0, 0)) := rfl
  exact ⟨⟨rfl, rfl, rfl, by rw [hh]; simp, fun j hj => by rw [hh, Array.getElem?_push, if_neg (by omega)]⟩, by rw [hh]; simp⟩
theorem ok_Ins {T : TypeId} (hmk : marks = false) (he : Enters P f) (L : InsAt P f T) : CallOk P fun f' args H => if f' = f then ovIns args H else none := fun f' args H r H' h => by
  dsimp only at h
  split at h
  case isFalse => cases h
  rename_i hf
  subst hf
  unfold ovIns at h
  have max63 : Go.maxLen ≤ 9223372036854775807 := by decide
  split at h
  · rename_i id n i k y
    split at h
    · rename_i cs hid hk
      split at h
      case isFalse => cases h
      rename_i hh
      obtain ⟨hcl, hone, hi0, hin, hbig⟩ := hh
      cases h
      refine ⟨he, fun g w vs hI hr => ?_⟩
      simp only [RVs] at hr
      obtain ⟨v0, _, rfl, h0, v1, _, rfl, h1, v2, _, rfl, h2, rfl⟩ := hr
      obtain ⟨vb, voff, vc, ve, vt, rfl, hmk2, hvs, tA, kA, hsa, hfa, hfe⟩ := one_arg hmk hI hk h2
      simp only [RV] at h0 h1
      subst h1
      obtain ⟨_, b, e, top, cap, hm, rfl, hnc, htop, hcok⟩ := h0
      obtain ⟨iN, rfl⟩ : ∃ m : Nat, i = m := ⟨i.toNat, by omega⟩
      rw [Int.toNat_natCast]
      have hcap63 : cap ≤ 9223372036854775807 := hcok.elim (fun h => by rw [hmk] at h; cases h) (fun h => h)
      obtain ⟨hle, us, hus, hcell⟩ := hI.obj id cs b e top hid hm
      obtain ⟨carr, el, fr, hb, het, htc, hfr, hlow⟩ := hI.blk id b e top (.inr ⟨cs, hid⟩) hm
      have hul : us.length = n := by rw [← hus.length]; exact hcl
      have h1c := ones_ok hone hus
      have h1v : ∀ v ∈ [Value.int .i64 y], v.oneCell' = true := fun v hv => by rw [List.mem_singleton.1 hv]; rfl
      have hne : vb ≠ b := fun heq => by
        subst heq
        have := hI.dist id k vb e top ve vt (.inr ⟨cs, hid⟩) (.inl hk) hm hmk2
        subst this
        rw [hid] at hk; cases hk
      have hlt : id < H.length := (List.getElem?_eq_some_iff.1 hid).1
      have hlk : (H.set id .dead).length = H.length := by simp
      have hnewP : RVs g H (cs.take iN ++ [.int .i64 y] ++ cs.drop iN) (us.take iN ++ [.int .i64 y] ++ us.drop iN) := ((hus.take iN).append (by simp only [RVs, RV]; exact ⟨_, _, rfl, rfl, rfl⟩)).append (hus.drop iN)
      have hnewl : (us.take iN ++ [Value.int .i64 y] ++ us.drop iN).length = n + 1 := by simp; omega
      have hae : (⟨b, e + 0, none⟩ : Addr) = ⟨b, e, none⟩ := rfl
      have hsome : ∀ j, j < cap → (w.cell? ⟨b, e + j, none⟩).isSome = true := fun j hj => cell_isSome hb (by omega)
      have hfrz : ∀ j, j < cap → w.frozen? ⟨b, e + j, none⟩ = false := fun j hj => cell_frozen hb (hfr.free (by omega))
      have fin : ∀ {w' : World} {carr' : Array Value}, w'.heap[b]? = some (.cells carr' el fr) → carr'.size = carr.size → (∀ j, j ≠ b → w'.heap[j]? = w.heap[j]?) → w'.heap.size = w.heap.size → w'.os = w.os → w'.tape = w.tape → w'.output = w.output → n + 1 ≤ cap →
          (∀ o, o < e → w'.cell? ⟨b, o, none⟩ = w.cell? ⟨b, o, none⟩) → (∀ (j : Nat) v, (us.take iN ++ [.int .i64 y] ++ us.drop iN)[j]? = some v → w'.cell? ⟨b, e + j, none⟩ = some v) →
          ∃ v g', Ending.returned (.slice (some ⟨b, e + 0, none⟩) (n + 1) cap) = .returned v ∧ Inv g' (H.set id .dead ++ [.cells (cs.take iN ++ [.int .i64 y] ++ cs.drop iN)]) w' ∧ RV g' (H.set id .dead ++ [.cells (cs.take iN ++ [.int .i64 y] ++ cs.drop iN)]) (.row H.length 0 1 (n + 1)) v ∧ Ext g H w g' (H.set id .dead ++ [.cells (cs.take iN ++ [.int .i64 y] ++ cs.drop iN)]) w' := fun {w' carr'} a1 a2 a3 a4 a5 a6 a7 a8 a9 a10 => by
        obtain ⟨g', i1, i2, i3⟩ := put_any hI (.inl hid) hm hnewP (by omega) hb a1 a2 a3 a4 a5 a6 a7 a9 a10
        refine ⟨_, g', rfl, i1, ?_, i2⟩
        simp only [RV]
        exact ⟨by simp, b, e, top, cap, i3, rfl, a8, htop, hcok⟩
      rcases Nat.lt_or_ge cap (n + 1) with hfull | hroom
      · -- a new block
        have fresh : ∀ {w' : World} {carr' : Array Value} {el' : TypeId} {cap' : Nat}, Below w.heap.size w w' → w'.heap[w.heap.size]? = some (.cells carr' el' (0, 0)) → (∀ (j : Nat) v, (us.take iN ++ [.int .i64 y] ++ us.drop iN)[j]? = some v → carr'[j]? = some v) → n + 1 ≤ cap' → cap' ≤ carr'.size → cap' ≤ 9223372036854775807 →
            ∃ v g', Ending.returned (.slice (some ⟨w.heap.size, 0, none⟩) (n + 1) cap') = .returned v ∧ Inv g' (H.set id .dead ++ [.cells (cs.take iN ++ [.int .i64 y] ++ cs.drop iN)]) w' ∧ RV g' (H.set id .dead ++ [.cells (cs.take iN ++ [.int .i64 y] ++ cs.drop iN)]) (.row H.length 0 1 (n + 1)) v ∧ Ext g H w g' (H.set id .dead ++ [.cells (cs.take iN ++ [.int .i64 y] ++ cs.drop iN)]) w' := fun {w' carr' el' cap'} a1 a2 a3 a4 a5 a6 => by
          obtain ⟨g', i1, i2, i3⟩ := growC (hI.kill id) a1 (Nat.le_refl _) a2 (hnewP.ext (Ext.kill g H w id)) a3 (by omega) (.inl rfl)
          rw [hlk] at i3
          refine ⟨_, g', rfl, i1, ?_, (Ext.kill g H w id).trans i2⟩
          simp only [RV]
          exact ⟨by simp, w.heap.size, 0, carr'.size, cap', i3, rfl, a4, by omega, .inr a6⟩
        have hg1 := grownCap_ge w (n + 1) cap T
        have hg2 : grownCap w (n + 1) cap T ≤ 9223372036854775807 := Nat.le_trans (grownCap_le_maxLen w (n + 1) cap T (by unfold Go.maxLen; omega)) max63
        rcases Nat.lt_or_ge iN n with hlt2 | hend
        · refine (L.mid b e n cap iN vb voff 1 vc us [.int .i64 y] w hlt2 (by decide) hnc hfull (by omega) hul rfl hcell hvs h1c h1v).mono ?_
          rintro e' w' ⟨rfl, rfl⟩
          obtain ⟨A, hA⟩ : ∃ A, (us.take iN).toArray ++ Builtin.zeroCells (Value.int .i64 0).cells (n + 1 - iN) ++ Builtin.zeroCells (Value.int .i64 0).cells (grownCap w (n + 1) cap T - (n + 1)) = A := ⟨_, rfl⟩
          rw [hA]
          have hAs : A.size = grownCap w (n + 1) cap T := by
            rw [← hA]
            simp only [Array.size_append, List.size_toArray, size_zeroCells, List.length_take]
            have : (Value.int .i64 0).cells.size = 1 := rfl
            rw [this]; omega
          have hA1 : ∀ j v, j < iN → us[j]? = some v → A[j]? = some v := fun j v hj hv => by
            have hjl : j < (us.take iN).toArray.size := by simp; omega
            rw [← hA, Array.append_assoc, Array.getElem?_append_left hjl]
            simp only [List.getElem?_toArray, List.getElem?_take]
            rw [if_pos hj]; exact hv
          obtain ⟨W0, hW0⟩ : ∃ W0, w.alloc (.cells A T) = W0 := ⟨_, rfl⟩
          rw [hW0]
          have hh : W0.heap = w.heap.push (.cells A T (0, 0)) := by rw [← hW0]; rfl
          have hWn : W0.heap[w.heap.size]? = some (.cells A T (0, 0)) := by rw [hh]; simp
          obtain ⟨⟨A1, p1, p2⟩, p3, p4, p5, p6, p7⟩ := setCells_facts w.heap.size [Value.int .i64 y] iN W0.drew A T (0, 0) hWn
          obtain ⟨⟨A2, q1, q2⟩, q3, q4, q5, q6, q7⟩ := setCells_facts w.heap.size (us.drop iN) (iN + 1) (W0.drew.setCells w.heap.size iN [Value.int .i64 y]).drew A1 T (0, 0) p1
          have hB : Below w.heap.size w ((W0.drew.setCells w.heap.size iN [Value.int .i64 y]).drew.setCells w.heap.size (iN + 1) (us.drop iN)) :=
            ⟨q5.trans (p5.trans (by rw [← hW0]; rfl)), q6.trans (p6.trans (by rw [← hW0]; rfl)), q7.trans (p7.trans (by rw [← hW0]; rfl)), by rw [q4]; show w.heap.size ≤ (W0.drew.setCells w.heap.size iN [Value.int .i64 y]).heap.size; rw [p4]; show w.heap.size ≤ W0.heap.size; rw [hh]; simp, fun j hj => by
              rw [q3 j (by omega)]
              show (W0.drew.setCells w.heap.size iN [Value.int .i64 y]).heap[j]? = _
              rw [p3 j (by omega)]
              show W0.heap[j]? = _
              rw [hh, Array.getElem?_push, if_neg (by omega)]⟩
          refine fresh hB q1 (fun j v hv => ?_) hg1 (by rw [q2, p2, hAs]; exact Nat.le_refl _) hg2
          have hm0 := mid_cells w.heap.size iN us (.int .i64 y) W0.drew.drew (by omega) (fun j v hj hv => by
              show World.cell? W0.drew.drew ⟨w.heap.size, j, none⟩ = some v
              have := hA1 j v hj hv
              unfold World.cell?
              simp only [show W0.drew.drew.heap[w.heap.size]? = some (.cells A T (0, 0)) from hWn]
              simpa using this) (fun j hj => cell_isSome (w := W0.drew.drew) hWn (by omega)) j v hv
          have hm1 : ((W0.drew.setCells w.heap.size iN [Value.int .i64 y]).drew.setCells w.heap.size (iN + 1) (us.drop iN)).cell? ⟨w.heap.size, j, none⟩ = some v := by
            rw [drew_setCells]
            exact hm0
          unfold World.cell? at hm1
          simp only [q1] at hm1
          simpa using hm1
        · obtain rfl : iN = n := by omega
          have hd : us.drop iN = [] := List.drop_eq_nil_of_le (by omega)
          have hd' : us.take iN = us := List.take_of_length_le (by omega)
          refine (L.grow (some ⟨b, e, none⟩) iN cap vb voff 1 vc us [.int .i64 y] w (by decide) hnc hfull (by omega) hul rfl (fun h => by cases h) (fun a ha j v hv => by cases ha; rw [Addr.add_lit]; exact hcell j v hv) hvs h1v).mono ?_
          rintro e' w' ⟨rfl, rfl⟩
          refine fresh (carr' := (us ++ [Value.int .i64 y]).toArray ++ Builtin.zeroCells (Value.int .i64 0).cells (grownCap w (iN + 1) cap T - (iN + 1))) (el' := T) (alloc_new w _ T).1 (alloc_new w _ T).2 (fun j v hv => ?_) hg1 ?_ hg2
          · rw [hd, List.append_nil, hd'] at hv
            have hj : j < (us ++ [Value.int .i64 y]).toArray.size := by simpa using (List.getElem?_eq_some_iff.1 hv).1
            rw [Array.getElem?_append_left hj]
            simpa using hv
          · simp only [Array.size_append, List.size_toArray, size_zeroCells, List.length_append, List.length_singleton, hul]
            have : (Value.int .i64 0).cells.size = 1 := rfl
            rw [this]; omega
      · rcases Nat.lt_or_ge iN n with hlt2 | hend
        · refine (L.shift b e n cap iN vb voff 1 vc us [.int .i64 y] w hlt2 (by decide) hroom hcap63 hne hul rfl hcell (fun j hj => hsome j (by omega)) (fun j hj => hfrz j (by omega)) hvs h1c h1v tA el kA carr.size hsa (by simp [World.shape?, hb]) (by omega) hfa hfe).mono ?_
          rintro e' w' ⟨rfl, rfl⟩
          obtain ⟨⟨A1, p1, p2⟩, p3, p4, p5, p6, p7⟩ := setCells_facts b (us.drop iN) (e + (iN + 1)) w.drew carr el fr hb
          obtain ⟨⟨A2, q1, q2⟩, q3, q4, q5, q6, q7⟩ := setCells_facts b [Value.int .i64 y] (e + iN) (w.drew.setCells b (e + (iN + 1)) (us.drop iN)) A1 el fr p1
          refine fin q1 (q2.trans p2) (fun j hj => (q3 j hj).trans (p3 j hj)) (q4.trans p4) (q5.trans p5) (q6.trans p6) (q7.trans p7) hroom (fun o ho => ?_) (fun j v hv => ?_)
          · rw [World.cell?_setCells_out b _ (e + iN) _ ⟨b, o, none⟩ (fun _ _ => .inl (by show o < e + iN; omega)), World.cell?_setCells_out b _ (e + (iN + 1)) _ ⟨b, o, none⟩ (fun _ _ => .inl (by show o < e + (iN + 1); omega))]
            rfl
          · exact shift_cells b e iN us (.int .i64 y) w.drew (by omega) (fun j v hv => hcell j v hv) (fun j hj => hsome j (by omega)) j v hv
        · obtain rfl : iN = n := by omega
          have hd : us.drop iN = [] := List.drop_eq_nil_of_le (by omega)
          have hd' : us.take iN = us := List.take_of_length_le (by omega)
          refine (L.room b e iN cap vb voff 1 vc [.int .i64 y] w (by decide) hroom hcap63 rfl (fun j hj => by rw [Nat.add_assoc]; exact hsome _ (by omega)) (fun j hj => by rw [Nat.add_assoc]; exact hfrz _ (by omega)) hvs h1v).mono ?_
          rintro e' w' ⟨rfl, rfl⟩
          obtain ⟨⟨A1, p1, p2⟩, p3, p4, p5, p6, p7⟩ := setCells_facts b [Value.int .i64 y] (e + iN) w carr el fr hb
          refine fin p1 p2 p3 p4 p5 p6 p7 hroom (fun o ho => World.cell?_setCells_out b _ (e + iN) _ ⟨b, o, none⟩ (fun _ _ => .inl (by show o < e + iN; omega))) (fun j v hv => ?_)
          have h0 := shift_cells b e iN us (.int .i64 y) w (by omega) (fun j v hv => hcell j v hv) (fun j hj => hsome j (by omega)) j v hv
          rw [hd] at h0
          exact h0
    · cases h
  · rename_i j z k y
    split at h
    · rename_i hj hk
      split at h
      case isFalse => cases h
      rename_i hh
      obtain ⟨hz, hjk⟩ := hh
      cases h
      refine ⟨he, fun g w vs hI hr => ?_⟩
      simp only [RVs] at hr
      obtain ⟨v0, _, rfl, h0, v1, _, rfl, h1, v2, _, rfl, h2, rfl⟩ := hr
      obtain ⟨vb, voff, vc, ve, vt, rfl, hmk2, hvs, tA, kA, hsa, hfa, hfe⟩ := one_arg hmk hI hk h2
      simp only [RV] at h0 h1
      subst h1
      obtain ⟨_, hrc, hown⟩ := h0
      have hown := hown hj
      have h1v : ∀ v ∈ [Value.int .i64 y], v.oneCell' = true := fun v hv => by rw [List.mem_singleton.1 hv]; rfl
      have hlk : (H.set j .dead).length = H.length := by simp
      have hnewP : ∀ {g : Gh} {H : Hp}, RVs g H [.int .i64 y] [.int .i64 y] := by intro g H; simp only [RVs, RV]; exact ⟨_, _, rfl, rfl, rfl⟩
      have grow0 : ∀ {base : Option Addr}, v0 = .slice base 0 0 → Calls P f' #[v0, .int .i64 0, .slice (some ⟨vb, voff, none⟩) 1 vc] w fun e w' => ∃ v g', e = .returned v ∧ Inv g' (H.set j .dead ++ [.cells [.int .i64 y]]) w' ∧ RV g' (H.set j .dead ++ [.cells [.int .i64 y]]) (.row H.length 0 1 1) v ∧ Ext g H w g' (H.set j .dead ++ [.cells [.int .i64 y]]) w' := fun {base} hv0 => by
        subst hv0
        have hg1 := grownCap_ge w (0 + 1) 0 T
        have hg2 : grownCap w (0 + 1) 0 T ≤ 9223372036854775807 := Nat.le_trans (grownCap_le_maxLen w (0 + 1) 0 T (by decide)) max63
        refine (L.grow base 0 0 vb voff 1 vc [] [.int .i64 y] w (by decide) (Nat.le_refl _) (by decide) (by decide) rfl rfl (fun _ => rfl) (fun a ha j v hv => by simp at hv) hvs h1v).mono ?_
        rintro e' w' ⟨rfl, rfl⟩
        obtain ⟨g', i1, i2, i3⟩ := growC (w' := w.drew.alloc (.cells (([] ++ [Value.int .i64 y]).toArray ++ Builtin.zeroCells (Value.int .i64 0).cells (grownCap w (0 + 1) 0 T - (0 + 1))) T)) (carr := ([] ++ [Value.int .i64 y]).toArray ++ Builtin.zeroCells (Value.int .i64 0).cells (grownCap w (0 + 1) 0 T - (0 + 1))) (el := T) (fr := (0, 0)) (hI.kill j) (alloc_new w _ T).1 (Nat.le_refl _) (alloc_new w _ T).2 (hnewP (g := g) (H := H.set j .dead)) (fun i v hv => by
          have hi : i < ([] ++ [Value.int .i64 y]).toArray.size := by simpa using (List.getElem?_eq_some_iff.1 hv).1
          rw [Array.getElem?_append_left hi]
          simpa using hv) (by simp) (.inl rfl)
        rw [hlk] at i3
        refine ⟨_, g', rfl, i1, ?_, (Ext.kill g H w j).trans i2⟩
        simp only [RV]
        refine ⟨by simp, w.heap.size, 0, _, _, i3, rfl, hg1, ?_, .inr hg2⟩
        simp only [Array.size_append, List.size_toArray, size_zeroCells, List.length_append, List.length_singleton, List.length_nil]
        have : (Value.int .i64 0).cells.size = 1 := rfl
        rw [this]; omega
      unfold OwnAt at hown
      cases hm : g.μ j with
      | none =>
        rw [hm] at hown
        obtain ⟨base, hv0⟩ := hown
        exact grow0 hv0
      | some q =>
        obtain ⟨b, e, top⟩ := q
        rw [hm] at hown
        obtain ⟨hz0, off, n', cap, hv0, hoe, htop, hcok⟩ := hown
        have hn' : n' = 0 := by
          simp only [RC] at hrc
          obtain ⟨_, A, cap2, hv, _⟩ := hrc
          rw [hv] at hv0
          simp only [Value.slice.injEq] at hv0
          exact hv0.2.1.symm
        subst hn'
        rcases Nat.eq_zero_or_pos cap with hc0 | hcp
        · subst hc0; exact grow0 hv0
        · subst hv0
          have hz1 : z = 1 := by rcases hz with h | h <;> omega
          subst hz1
          have hoe' : off = e := by omega
          subst hoe'
          have hcap63 : cap ≤ 9223372036854775807 := hcok.elim (fun h => by rw [hmk] at h; cases h) (fun h => h)
          obtain ⟨carr, el, fr, hb, het, htc, hfr, hlow⟩ := hI.blk j b off top (.inl hj) hm
          refine (L.room b off 0 cap vb voff 1 vc [.int .i64 y] w (by decide) (by omega) hcap63 rfl (fun i hi => cell_isSome hb (by omega)) (fun i hi => cell_frozen hb (hfr.free (by omega))) hvs h1v).mono ?_
          rintro e' w' ⟨rfl, rfl⟩
          obtain ⟨_, g', i1, i2, i3⟩ := put_more (P := P) hI (cs := []) (newP := [.int .i64 y]) (.inr ⟨hj, rfl⟩) hm (hnewP (g := g) (H := H)) (by simp; omega) h1v
          refine ⟨_, g', rfl, i1, ?_, i2⟩
          simp only [RV]
          exact ⟨by simp, b, off, top, cap, i3, rfl, by omega, by omega, hcok⟩
    · cases h
  · cases h
end
end Go.Proofs.YtnljpfjoboafoaaDoor.Ev
