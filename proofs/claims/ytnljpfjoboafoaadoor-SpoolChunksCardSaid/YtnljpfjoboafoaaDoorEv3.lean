/- What a new block, a store, a right given up do to what is known of the heap. -/
import Derived.Test.YtnljpfjoboafoaaDoorEv2
namespace Go.Proofs.YtnljpfjoboafoaaDoor.Ev
set_option linter.all false
open Go Go.RowKit

theorem cell_heap {w w' : World} (h : w'.heap = w.heap) (a : Addr) : w'.cell? a = w.cell? a := by simp [World.cell?, h]
theorem Inv.heap {g : Gh} {H : Hp} {w w' : World} (hI : Inv g H w) (h : w'.heap = w.heap) : Inv g H w' :=
  ⟨fun b o v e => by rw [cell_heap h]; exact hI.σw b o v e, hI.one, hI.z, fun id b e top ha hm => by rw [h]; exact hI.blk id b e top ha hm,
    fun id cs b e top hc hm => by
      obtain ⟨h2, vs, h3, h4⟩ := hI.obj id cs b e top hc hm
      exact ⟨h2, vs, h3, fun i v hv => by rw [cell_heap h]; exact h4 i v hv⟩,
    hI.dist, fun b hb => by rw [h]; exact hI.c b hb⟩
theorem Ext.heap (g : Gh) (H : Hp) {w w' : World} (h : w'.heap = w.heap) (h1 : w'.os = w.os) (h2 : w'.tape = w.tape) (h3 : w'.output = w.output) : Ext g H w g H w' :=
  ⟨fun _ _ _ h => h, fun _ _ => rfl, Nat.le_refl _, fun _ _ h => ⟨h, rfl⟩, h1, h2, h3, by rw [h]; exact Nat.le_refl _, fun _ _ _ => by rw [h], fun _ _ _ _ => rfl, fun _ h => .inl h⟩

/-- Cells of one block told for good. -/
def Sg.put (σ : Sg) (b off : Nat) (vs : List Value) : Sg := fun b' o => if b' = b ∧ off ≤ o ∧ o < off + vs.length then vs[o - off]? else σ b' o
def muPut (μ : Nat → Option (Nat × Nat × Nat)) (k : Nat) (x : Option (Nat × Nat × Nat)) : Nat → Option (Nat × Nat × Nat) := fun i => if i = k then x else μ i
theorem Sg.put_holds (σ : Sg) (b off : Nat) (vs : List Value) : (σ.put b off vs).holds b off vs := fun i v hv => by
  have hl : i < vs.length := (List.getElem?_eq_some_iff.1 hv).1
  unfold Sg.put
  rw [if_pos ⟨rfl, by omega, by omega⟩, show off + i - off = i by omega]
  exact hv
theorem Sg.put_one {σ : Sg} {b off : Nat} {vs : List Value} (h : ∀ b o v, σ b o = some v → v.oneCell' = true) (hv : ∀ v ∈ vs, v.oneCell' = true) : ∀ b' o v, σ.put b off vs b' o = some v → v.oneCell' = true := fun b' o v he => by
  unfold Sg.put at he
  split at he
  · exact hv v (List.mem_of_getElem? he)
  · exact h b' o v he
theorem Sg.put_ne {σ : Sg} {b off : Nat} {vs : List Value} {b' : Nat} (o : Nat) (h : b' ≠ b) : σ.put b off vs b' o = σ b' o := by
  unfold Sg.put
  rw [if_neg (fun hc => h hc.1)]
theorem Sg.put_le {σ : Sg} {b off : Nat} {vs : List Value} (h : ∀ i, i < vs.length → σ b (off + i) = none) : σ.le (σ.put b off vs) := fun b' o v hv => by
  unfold Sg.put
  by_cases hc : b' = b ∧ off ≤ o ∧ o < off + vs.length
  · obtain ⟨rfl, h1, h2⟩ := hc
    have := h (o - off) (by omega)
    rw [show off + (o - off) = o by omega] at this
    rw [this] at hv
    cases hv
  · rw [if_neg hc]; exact hv
theorem muPut_self (μ : Nat → Option (Nat × Nat × Nat)) (k : Nat) (x : Option (Nat × Nat × Nat)) : muPut μ k x k = x := if_pos rfl
theorem muPut_ne {μ : Nat → Option (Nat × Nat × Nat)} {k i : Nat} {x : Option (Nat × Nat × Nat)} (h : i ≠ k) : muPut μ k x i = μ i := if_neg h

theorem Inv.lt {g : Gh} {H : Hp} {w : World} (hI : Inv g H w) {id b e top : Nat} (ha : Alive H id) (hm : g.μ id = some (b, e, top)) : b < w.heap.size := by
  obtain ⟨_, _, _, h, _⟩ := hI.blk id b e top ha hm
  exact (Array.getElem?_eq_some_iff.1 h).1
theorem cell_block_lt {w : World} {b o : Nat} {v : Value} (h : w.cell? ⟨b, o, none⟩ = some v) : b < w.heap.size := by
  rcases Nat.lt_or_ge b w.heap.size with hl | hl
  · exact hl
  · simp [World.cell?, Array.getElem?_eq_none hl] at h
theorem Inv.σ_lt {g : Gh} {H : Hp} {w : World} (hI : Inv g H w) {b o : Nat} {v : Value} (h : g.σ b o = some v) : b < w.heap.size := cell_block_lt (hI.σw b o v h)
theorem Inv.σ_new {g : Gh} {H : Hp} {w : World} (hI : Inv g H w) (o : Nat) {b : Nat} (hb : w.heap.size ≤ b) : g.σ b o = none := by
  cases h : g.σ b o with
  | none => rfl
  | some v => have := hI.σ_lt h; omega

theorem get_push_old {w w' : World} {o : Obj} (hw : w'.heap = w.heap.push o) {k : Nat} (hk : k < w.heap.size) : w'.heap[k]? = w.heap[k]? := by
  rw [hw, Array.getElem?_push, if_neg (by omega)]
theorem get_push_new {w w' : World} {o : Obj} (hw : w'.heap = w.heap.push o) : w'.heap[w.heap.size]? = some o := by
  rw [hw, Array.getElem?_push, if_pos rfl]
theorem cell_push_old {w w' : World} {o : Obj} (hw : w'.heap = w.heap.push o) {b i : Nat} {v : Value} (h : w.cell? ⟨b, i, none⟩ = some v) : w'.cell? ⟨b, i, none⟩ = some v := by
  have := cell_block_lt h
  rw [World.cell?_of_block (w := w) (get_push_old hw this)]
  exact h

/-- A new block: its first cells vs told for good, an entry for what may be done to the rest. -/
theorem grow {g : Gh} {H H' : Hp} {w w' : World} (hI : Inv g H w) {carr : Array Value} {el : TypeId} {fr : Nat × Nat} (hw : w'.heap = w.heap.push (.cells carr el fr))
    (h1 : w'.os = w.os) (h2 : w'.tape = w.tape) (h3 : w'.output = w.output) (vs : List Value) (hvs : ∀ (i : Nat) v, vs[i]? = some v → carr[i]? = some v) (hone : ∀ v ∈ vs, v.oneCell' = true)
    (x : Option (Nat × Nat × Nat)) (hold : ∀ id, id < H.length → H'[id]? = H[id]?) (hlen : H.length ≤ H'.length) (honly : ∀ id, Alive H' id → H.length ≤ id → id = H.length)
    (hx : Alive H' H.length → ∀ b e top, x = some (b, e, top) → b = w.heap.size ∧ vs.length ≤ e ∧ e ≤ top ∧ top ≤ carr.size ∧ FrOk fr carr.size)
    (hobj : ∀ cs, H'[H.length]? = some (.cells cs) → ∀ b e top, x = some (b, e, top) → e + cs.length ≤ top ∧ ∃ us, RVs g H cs us ∧ ∀ (i : Nat) v, us[i]? = some v → carr[e + i]? = some v) :
    Inv ⟨g.σ.put w.heap.size 0 vs, muPut g.μ H.length x⟩ H' w' ∧ Ext g H w ⟨g.σ.put w.heap.size 0 vs, muPut g.μ H.length x⟩ H' w' := by
  have hold' : ∀ id, id < H.length → (Alive H' id ↔ Alive H id) := fun id hid => by unfold Alive; rw [hold id hid]
  have hsz : w'.heap.size = w.heap.size + 1 := by rw [hw]; simp
  have hle : g.σ.le (g.σ.put w.heap.size 0 vs) := Sg.put_le (fun i _ => hI.σ_new _ (Nat.le_refl _))
  have hE : Ext g H w ⟨g.σ.put w.heap.size 0 vs, muPut g.μ H.length x⟩ H' w' := by
    refine ⟨hle, fun id hid => ?_, hlen, fun k hk hk' => ?_, h1, h2, h3, by omega, fun k hk _ => get_push_old hw hk, fun k o hk _ => Sg.put_ne o (by omega), fun k hk => ?_⟩
    · exact muPut_ne (by omega)
    · rw [hold k hk] at hk'
      exact ⟨hk', muPut_ne (by omega)⟩
    · obtain ⟨id, e, top, ha, hm⟩ := hk
      by_cases hid : id < H.length
      · have hm' : g.μ id = some (k, e, top) := by rw [← hm]; exact (muPut_ne (by omega)).symm
        exact .inl ⟨id, e, top, (hold' id hid).1 ha, hm'⟩
      · have := honly id ha (by omega)
        subst this
        have hm' : x = some (k, e, top) := by rw [← hm]; exact (muPut_self _ _ _).symm
        exact .inr (by have := (hx ha k e top hm').1; omega)
  refine ⟨⟨fun b o v hv => ?_, Sg.put_one hI.one hone, hI.z.mono hle, fun id b e top ha hm => ?_, fun id cs b e top hc hm => ?_, fun id id' b e top e' top' ha ha' hm hm' => ?_, hI.c.ext hE⟩, hE⟩
  · by_cases hb : b = w.heap.size
    · subst hb
      have hv' : Sg.put g.σ w.heap.size 0 vs w.heap.size o = some v := hv
      unfold Sg.put at hv'
      by_cases hc : w.heap.size = w.heap.size ∧ 0 ≤ o ∧ o < 0 + vs.length
      · rw [if_pos hc] at hv'
        have := hvs _ _ hv'
        unfold World.cell?
        simp only [get_push_new hw]
        simpa using this
      · rw [if_neg hc, hI.σ_new _ (Nat.le_refl _)] at hv'
        cases hv'
    · have hv' : Sg.put g.σ w.heap.size 0 vs b o = some v := hv
      rw [Sg.put_ne o hb] at hv'
      exact cell_push_old hw (hI.σw b o v hv')
  · by_cases hid : id < H.length
    · have hm' : g.μ id = some (b, e, top) := by rw [← hm]; exact (muPut_ne (by omega)).symm
      have hal := (hold' id hid).1 ha
      obtain ⟨carr', el', fr', h4, h5, h6, h7, h8⟩ := hI.blk id b e top hal hm'
      have hb := hI.lt hal hm'
      exact ⟨carr', el', fr', by rw [get_push_old hw hb]; exact h4, h5, h6, h7, fun o ho => by
        show Sg.put g.σ w.heap.size 0 vs b o = none
        rw [Sg.put_ne o (by omega)]; exact h8 o ho⟩
    · have := honly id ha (by omega)
      subst this
      have hm' : x = some (b, e, top) := by rw [← hm]; exact (muPut_self _ _ _).symm
      obtain ⟨rfl, h4, h5, h6, h7⟩ := hx ha b e top hm'
      exact ⟨carr, el, fr, get_push_new hw, h5, h6, h7, fun o ho => by
        show Sg.put g.σ w.heap.size 0 vs w.heap.size o = none
        unfold Sg.put
        rw [if_neg (by omega)]; exact hI.σ_new _ (Nat.le_refl _)⟩
  · by_cases hid : id < H.length
    · have hm' : g.μ id = some (b, e, top) := by rw [← hm]; exact (muPut_ne (by omega)).symm
      rw [hold id hid] at hc
      obtain ⟨h5, us, h6, h7⟩ := hI.obj id cs b e top hc hm'
      exact ⟨h5, us, h6.ext hE, fun i v hv => cell_push_old hw (h7 i v hv)⟩
    · have := honly id (.inr ⟨cs, hc⟩) (by omega)
      subst this
      have hm' : x = some (b, e, top) := by rw [← hm]; exact (muPut_self _ _ _).symm
      obtain ⟨h5, us, h6, h7⟩ := hobj cs hc b e top hm'
      have hb := (hx (.inr ⟨cs, hc⟩) b e top hm').1
      subst hb
      refine ⟨h5, us, h6.ext hE, fun i v hv => ?_⟩
      have := h7 i v hv
      unfold World.cell?
      simp only [get_push_new hw]
      simpa using this
  · by_cases hid : id < H.length
    · have hm1 : g.μ id = some (b, e, top) := by rw [← hm]; exact (muPut_ne (by omega)).symm
      have hal := (hold' id hid).1 ha
      have hb := hI.lt hal hm1
      by_cases hid' : id' < H.length
      · have hm2 : g.μ id' = some (b, e', top') := by rw [← hm']; exact (muPut_ne (by omega)).symm
        exact hI.dist id id' b e top e' top' hal ((hold' id' hid').1 ha') hm1 hm2
      · have := honly id' ha' (by omega)
        subst this
        have hm2 : x = some (b, e', top') := by rw [← hm']; exact (muPut_self _ _ _).symm
        have := (hx ha' b e' top' hm2).1
        omega
    · have := honly id ha (by omega)
      subst this
      have hm1 : x = some (b, e, top) := by rw [← hm]; exact (muPut_self _ _ _).symm
      have hb := (hx ha b e top hm1).1
      by_cases hid' : id' < H.length
      · have hm2 : g.μ id' = some (b, e', top') := by rw [← hm']; exact (muPut_ne (by omega)).symm
        have := hI.lt ((hold' id' hid').1 ha') hm2
        omega
      · exact (honly id' ha' (by omega)).symm

theorem get_append_self (H : Hp) (o : Ob) : (H ++ [o])[H.length]? = some o := by simp
theorem get_append_old (H L : Hp) {id : Nat} (h : id < H.length) : (H ++ L)[id]? = H[id]? := List.getElem?_append_left h
theorem alive_append_one {H : Hp} {o : Ob} {id : Nat} (ha : Alive (H ++ [o]) id) (h : H.length ≤ id) : id = H.length := by
  have := ha.lt
  simp at this
  omega

/-- A new block that nothing may be done to. -/
theorem grow_none {g : Gh} {H : Hp} {w w' : World} (hI : Inv g H w) {carr : Array Value} {el : TypeId} {fr : Nat × Nat} (hw : w'.heap = w.heap.push (.cells carr el fr))
    (h1 : w'.os = w.os) (h2 : w'.tape = w.tape) (h3 : w'.output = w.output) (vs : List Value) (hvs : ∀ (i : Nat) v, vs[i]? = some v → carr[i]? = some v) (hone : ∀ v ∈ vs, v.oneCell' = true) :
    ∃ g', Inv g' H w' ∧ Ext g H w g' H w' ∧ g'.σ.holds w.heap.size 0 vs :=
  have hx := grow (H' := H) hI hw h1 h2 h3 vs hvs hone none (fun _ _ => rfl) (Nat.le_refl _) (fun id ha hl => absurd ha.lt (Nat.not_lt.2 hl)) (fun _ _ _ _ h => by cases h) (fun _ _ _ _ _ h => by cases h)
  ⟨_, hx.1, hx.2, Sg.put_holds _ _ _ _⟩
/-- A new block whose rest may be written by who has the right to append. -/
theorem grow_tok {g : Gh} {H : Hp} {w w' : World} (hI : Inv g H w) {carr : Array Value} {el : TypeId} {fr : Nat × Nat} (hw : w'.heap = w.heap.push (.cells carr el fr))
    (h1 : w'.os = w.os) (h2 : w'.tape = w.tape) (h3 : w'.output = w.output) (vs : List Value) (hvs : ∀ (i : Nat) v, vs[i]? = some v → carr[i]? = some v) (hone : ∀ v ∈ vs, v.oneCell' = true)
    (top : Nat) (hl : vs.length ≤ top) (ht : top ≤ carr.size) (hf : FrOk fr carr.size) :
    ∃ g', Inv g' (H ++ [.tok]) w' ∧ Ext g H w g' (H ++ [.tok]) w' ∧ g'.σ.holds w.heap.size 0 vs ∧ g'.μ H.length = some (w.heap.size, vs.length, top) :=
  have hx := grow (H' := H ++ [.tok]) hI hw h1 h2 h3 vs hvs hone (some (w.heap.size, vs.length, top)) (fun _ h => get_append_old H _ h) (by simp) (fun id ha hl => alive_append_one ha hl)
    (fun _ b e top' h => by cases h; exact ⟨rfl, Nat.le_refl _, hl, ht, hf⟩) (fun cs hc => by rw [get_append_self] at hc; cases hc)
  ⟨_, hx.1, hx.2, Sg.put_holds _ _ _ _, muPut_self _ _ _⟩
/-- A new variable, or a row that is written in place. -/
theorem grow_obj {g : Gh} {H : Hp} {w w' : World} (hI : Inv g H w) {carr : Array Value} {el : TypeId} {fr : Nat × Nat} (hw : w'.heap = w.heap.push (.cells carr el fr))
    (h1 : w'.os = w.os) (h2 : w'.tape = w.tape) (h3 : w'.output = w.output) {cs : List PV} {us : List Value} (hr : RVs g H cs us) (hus : ∀ (i : Nat) v, us[i]? = some v → carr[i]? = some v)
    (hl : us.length ≤ carr.size) (hf : FrOk fr carr.size) :
    ∃ g', Inv g' (H ++ [.cells cs]) w' ∧ Ext g H w g' (H ++ [.cells cs]) w' ∧ g'.μ H.length = some (w.heap.size, 0, carr.size) :=
  have hx := grow (H' := H ++ [.cells cs]) hI hw h1 h2 h3 [] (fun i v h => by simp at h) (fun v h => by cases h) (some (w.heap.size, 0, carr.size)) (fun _ h => get_append_old H _ h) (by simp) (fun id ha hl => alive_append_one ha hl)
    (fun _ b e top' h => by cases h; exact ⟨rfl, Nat.le_refl _, Nat.zero_le _, Nat.le_refl _, hf⟩)
    (fun cs' hc b e top' h => by rw [get_append_self] at hc; cases hc; cases h; exact ⟨by rw [hr.length, Nat.zero_add]; exact hl, us, hr, fun i v hv => by rw [Nat.zero_add]; exact hus i v hv⟩)
  ⟨_, hx.1, hx.2, muPut_self _ _ _⟩

/-- A right given up. -/
theorem get_set_dead {H : Hp} {k id : Nat} : (H.set k .dead)[id]? = if k = id ∧ k < H.length then some .dead else H[id]? := by
  by_cases h : k = id
  · subst h
    by_cases hl : k < H.length
    · rw [List.getElem?_set_self hl, if_pos ⟨rfl, hl⟩]
    · rw [if_neg (fun hc => hl hc.2), List.getElem?_eq_none (by simpa using hl), List.getElem?_eq_none (by simpa using hl)]
  · rw [List.getElem?_set_ne h, if_neg (fun hc => h hc.1)]
theorem alive_kill {H : Hp} {k id : Nat} (h : Alive (H.set k .dead) id) : Alive H id ∧ id ≠ k := by
  have hl : id < H.length := by simpa using h.lt
  unfold Alive at h
  rw [get_set_dead] at h
  by_cases hc : k = id ∧ k < H.length
  · rw [if_pos hc] at h
    rcases h with h | ⟨cs, h⟩ <;> cases h
  · rw [if_neg hc] at h
    exact ⟨h, fun e => hc ⟨e.symm, e ▸ hl⟩⟩
theorem Ext.kill (g : Gh) (H : Hp) (w : World) (k : Nat) : Ext g H w g (H.set k .dead) w :=
  ⟨fun _ _ _ h => h, fun _ _ => rfl, by simp, fun i _ h => by
    rw [get_set_dead] at h
    split at h
    · cases h
    · exact ⟨h, rfl⟩, rfl, rfl, rfl, Nat.le_refl _, fun _ _ _ => rfl, fun _ _ _ _ => rfl, fun b ⟨id, e, top, ha, hm⟩ => .inl ⟨id, e, top, (alive_kill ha).1, hm⟩⟩
theorem Inv.kill {g : Gh} {H : Hp} {w : World} (hI : Inv g H w) (k : Nat) : Inv g (H.set k .dead) w :=
  ⟨hI.σw, hI.one, hI.z, fun id b e top ha => hI.blk id b e top (alive_kill ha).1, fun id cs b e top hc hm => by
    rw [get_set_dead] at hc
    split at hc
    · cases hc
    · obtain ⟨h2, us, h3, h4⟩ := hI.obj id cs b e top hc hm
      exact ⟨h2, us, h3.ext (Ext.kill g H w k), h4⟩,
    fun id id' b e top e' top' ha ha' => hI.dist id id' b e top e' top' (alive_kill ha).1 (alive_kill ha').1, hI.c.ext (Ext.kill g H w k)⟩
end Go.Proofs.YtnljpfjoboafoaaDoor.Ev
