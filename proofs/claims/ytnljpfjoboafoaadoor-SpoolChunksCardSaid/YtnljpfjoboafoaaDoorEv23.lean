/- Arguments that came in, told as pure values; what a call leaves of the blocks that were there. -/
import Derived.Test.YtnljpfjoboafoaaDoorEv22
import Derived.Deep.Slices
import Derived.ChangeArms
import Derived.ChangeSame
import Derived.SizedLaws
namespace Go.Proofs.YtnljpfjoboafoaaDoor.Ev
set_option linter.all false
open Go Go.RowKit Go.ChangeShapes Go.WideShapes Go.Deep

/-- All that lies in a world when the call begins. -/
def sg0 (w : World) : Sg := fun b o => match w.cell? ⟨b, o, none⟩ with | some v => if v.oneCell' = true then some v else none | none => none
def gh0 (w : World) : Gh := ⟨sg0 w, fun _ => none⟩
theorem sg0_mk {w : World} {b o : Nat} {v : Value} (h : w.cell? ⟨b, o, none⟩ = some v) (h1 : v.oneCell' = true) : sg0 w b o = some v := by
  unfold sg0
  rw [h]
  exact if_pos h1
theorem sg0_some {w : World} {b o : Nat} {v : Value} (h : sg0 w b o = some v) : w.cell? ⟨b, o, none⟩ = some v ∧ v.oneCell' = true := by
  unfold sg0 at h
  split at h
  · rename_i u hu
    split at h
    · rename_i h1
      cases h
      exact ⟨hu, h1⟩
    · cases h
  · cases h
theorem inv0 {w : World} (hz : ∀ b, glob = some b → ∃ m, w.cell? ⟨b, 0, none⟩ = some (.int .i64 m)) (hk : ∀ b, b ∈ constB → ∃ cs el fr, w.heap[b]? = some (.cells cs el fr) ∧ blockOk b cs) : Inv (gh0 w) [] w :=
  ⟨fun _ _ _ h => (sg0_some h).1, fun _ _ _ h => (sg0_some h).2, fun b hb => let ⟨m, hm⟩ := hz b hb; ⟨m, sg0_mk hm rfl⟩, fun _ _ _ _ _ h => (by cases h), fun _ _ _ _ _ _ h => (by cases h), fun _ _ _ _ _ _ _ _ _ h => (by cases h), fun b hb => let ⟨cs, el, fr, h1, h2⟩ := hk b hb; ⟨cs, el, fr, h1, h2, fun ⟨_, _, _, _, hm⟩ => by cases hm⟩⟩
theorem below0 {w w' : World} {g' : Gh} {H' : Hp} (h : Ext (gh0 w) [] w g' H' w') : Below w.heap.size w w' :=
  ⟨h.os, h.tape, h.output, h.size, fun k hk => h.frame k hk (fun ⟨_, _, _, _, hm⟩ => by cases hm)⟩

/-- How much one text, one row may hold. -/
abbrev room : Nat := 140737488351232
def Light {H : Type} (P : Program) (t : TypeId) (d : DataW H) : Prop := ∀ n ∈ d.weights P t, n ≤ room
theorem light_of {H : Type} {P : Program} {ts : List TypeId} {ds : List (DataW H)} (h : (DataW.weightsEach P ts ds).all (· ≤ reachBytes) = true) {j : Nat} {t : TypeId} {d : DataW H} (ht : ts[j]? = some t) (hd : ds[j]? = some d) : Light P t d := fun n hn => by
  have := List.all_eq_true.1 h _ (DataW.weights_mem_each ht hd n hn)
  have h2 : n ≤ reachBytes := by simpa using this
  have h3 : reachBytes = room := by decide
  omega
theorem mem_weightsAll {H : Type} {P : Program} {e : TypeId} {d : DataW H} {n : Nat} : ∀ {l : List (DataW H)}, d ∈ l → n ∈ d.weights P e → n ∈ DataW.weightsAll P e l
  | x :: l, hd, hn => by
    simp only [DataW.weightsAll, List.mem_append]
    rcases List.mem_cons.1 hd with rfl | hd
    · exact .inl hn
    · exact .inr (mem_weightsAll hd hn)
def Opens {α : Type} (P : Program) (t : TypeId) (mk : α → List PV) (Q : α → Prop) : Prop :=
  ∀ (H : Type) (enc : TypeId × Value → H) (w : World) (n : Nat) (cs : List Value) (x : DataW H × List MemPlace), DataW.trod enc P w 0 (fun _ => true) true n t cs = some x → Light P t x.1 →
    ∃ a, RCs (sg0 w) (mk a) cs ∧ (∀ v ∈ cs, v.oneCell' = true) ∧ Q a
theorem rcs_one {σ : Sg} {p : PV} {v : Value} (h : RC σ p v) : RCs σ [p] [v] := by
  simp only [RCs]
  exact ⟨v, [], rfl, h, rfl⟩
theorem opens_int {P : Program} {t : TypeId} {k : IntKind} (ht : P.underlying t = some (.int k)) : Opens P t (fun a => [.int k a]) (fun a => (Lit.int k a).wf = true) := by
  intro H enc w n cs x h _
  obtain ⟨a, rfl, _, hw⟩ := DataW.trod_int ht h
  exact ⟨a, rcs_one (by simp only [RC]), fun v hv => by simp at hv; subst hv; rfl, hw⟩
theorem byte_of {a : Int} (h : (Lit.int .u8 a).wf = true) : ∃ c : UInt8, a = (c.toNat : Int) := by
  have h1 : 0 ≤ a ∧ a < 256 := by
    have h2 : IntKind.u8.min ≤ a ∧ a ≤ IntKind.u8.max := by simpa [Lit.wf] using h
    have h3 : IntKind.u8.min = 0 := by decide
    have h4 : IntKind.u8.max = 255 := by decide
    omega
  refine ⟨UInt8.ofNat a.toNat, ?_⟩
  have : (UInt8.ofNat a.toNat).toNat = a.toNat := by
    rw [UInt8.toNat_ofNat']
    omega
  rw [this]; omega
theorem opens_byte {P : Program} {t : TypeId} (ht : P.underlying t = some (.int .u8)) : Opens P t (fun c : UInt8 => [b8 c]) (fun _ => True) := by
  intro H enc w n cs x h hx
  obtain ⟨a, h1, h2, h3⟩ := opens_int ht H enc w n cs x h hx
  obtain ⟨c, rfl⟩ := byte_of h3
  exact ⟨c, h1, h2, trivial⟩
theorem opens_bool {P : Program} {t : TypeId} (ht : P.underlying t = some .bool) : Opens P t (fun b => [.bool b]) (fun _ => True) := by
  intro H enc w n cs x h _
  obtain ⟨a, rfl, _⟩ := DataW.trod_bool ht h
  exact ⟨a, rcs_one (by simp only [RC]), fun v hv => by simp at hv; subst hv; rfl, trivial⟩
theorem opens_string {P : Program} {t : TypeId} (ht : P.underlying t = some .string) : Opens P t (fun l : List UInt8 => [.str l]) (fun l : List UInt8 => l.length ≤ room) := by
  intro H enc w n cs x h hx
  obtain ⟨a, rfl, rfl, hw⟩ := DataW.trod_string ht h
  exact ⟨a.data.toList, rcs_one (by simp only [RC]), fun v hv => by simp at hv; subst hv; rfl, hx _ (by simp [DataW.weights])⟩
theorem choose_list {α : Type} {S : Nat → α → Prop} : ∀ m, (∀ i, i < m → ∃ y, S i y) → ∃ l : List α, l.length = m ∧ ∀ i y, l[i]? = some y → S i y := by
  intro m
  induction m with
  | zero => exact fun _ => ⟨[], rfl, fun i y h => by simp at h⟩
  | succ m ih =>
    intro h
    obtain ⟨l, hl, hs⟩ := ih (fun i hi => h i (by omega))
    obtain ⟨y, hy⟩ := h m (by omega)
    refine ⟨l ++ [y], by simp [hl], fun i z hz => ?_⟩
    rcases Nat.lt_or_ge i l.length with hi | hi
    · rw [List.getElem?_append_left hi] at hz
      exact hs i z hz
    · rw [List.getElem?_append_right hi] at hz
      have h0 : i - l.length = 0 := by
        rcases Nat.eq_zero_or_pos (i - l.length) with h0 | h0
        · exact h0
        · rw [List.getElem?_eq_none (by simp only [List.length_singleton]; omega)] at hz
          cases hz
      rw [h0] at hz
      have : y = z := by simpa using hz
      subst this
      obtain rfl : i = m := by omega
      exact hy
/-- Elements in a row, each told by itself. -/
theorem row_cells {α : Type} {mk : α → List PV} {w : World} {sz : Nat} (hsz : ∀ a, (mk a).length = sz) {b : Nat} : ∀ (l : List α) (off : Nat),
    (∀ i y, l[i]? = some y → ∃ cs, RCs (sg0 w) (mk y) cs ∧ ∀ (j : Nat) v, cs[j]? = some v → sg0 w b (off + i * sz + j) = some v) →
    ∃ vs, (sg0 w).holds b off vs ∧ RCs (sg0 w) (l.flatMap mk) vs
  | [], off, _ => ⟨[], fun i v h => by simp at h, by simp only [List.flatMap_nil, RCs]⟩
  | a :: l, off, h => by
    obtain ⟨cs, h1, h2⟩ := h 0 a rfl
    obtain ⟨vs, h3, h4⟩ := row_cells hsz l (off + sz) (fun i y hy => by
      obtain ⟨cs, h1, h2⟩ := h (i + 1) y (by simpa using hy)
      refine ⟨cs, h1, fun j v hv => ?_⟩
      have := h2 j v hv
      rwa [show off + (i + 1) * sz + j = off + sz + i * sz + j by rw [Nat.succ_mul]; omega] at this)
    refine ⟨cs ++ vs, Sg.holds.append (fun j v hv => ?_) ?_, ?_⟩
    · have := h2 j v hv
      simpa using this
    · rw [← h1.length, hsz]; exact h3
    · rw [List.flatMap_cons]; exact h1.append h4
theorem opens_slice {α : Type} {P : Program} {t e : TypeId} {mk : α → List PV} {Q : α → Prop} {sz : Nat} (ht : P.underlying t = some (.slice e)) (hc : P.cellsOf e = sz) (hsz : ∀ a, (mk a).length = sz) (h0 : 0 < sz) (hby : 0 < P.bytesOf e) (he : Opens P e mk Q) :
    Opens P t (fun l : List α => [.sl .no sz l.length (l.flatMap mk)]) (fun l : List α => l.length ≤ room ∧ ∀ y ∈ l, Q y) := by
  intro H enc w n cs x h hlt
  rcases open_slice ht h with ⟨rfl, _⟩ | ⟨a, len, cap, m, n', D, Pl, rfl, hb, hl, hm, hmm, hx, hi⟩
  · refine ⟨[], rcs_one ?_, fun v hv => by simp at hv; subst hv; rfl, by simp, fun y hy => by simp at hy⟩
    simp only [RC]
    exact ⟨(fun _ h => nomatch h), none, 0, rfl, Nat.le_refl _, (fun h => nomatch h), by simp, (fun h => by simp at h)⟩
  · have hlm : len ≤ m := by rw [hmm]; exact hl
    have hel : ∀ i, i < len → Light P e (D i) := fun i hil n hn => by
      refine hlt n ?_
      rw [hx]
      simp only [DataW.weights, ht]
      exact List.mem_cons_of_mem _ (List.mem_append_left _ (mem_weightsAll (List.mem_map.2 ⟨i, List.mem_range.2 hil, rfl⟩) hn))
    have hroom : len ≤ room := by
      have h1 : (len + (m - len)) * P.bytesOf e ≤ room := by
        refine hlt _ ?_
        rw [hx]
        simp only [DataW.weights, ht]
        exact List.mem_cons.2 (.inl (by simp))
      exact Nat.le_trans (Nat.le_add_right _ _) (Nat.le_trans (Nat.le_mul_of_pos_right _ hby) h1)
    obtain ⟨l, hll, hs⟩ := choose_list (S := fun i y => ∃ cs', w.cells? 0 (a.add (i * P.cellsOf e)) (P.cellsOf e) = some cs' ∧ RCs (sg0 w) (mk y) cs' ∧ (∀ v ∈ cs', v.oneCell' = true) ∧ Q y) len (fun i hil => by
      obtain ⟨cs', h1, h2⟩ := hi i (by omega)
      obtain ⟨y, hK, ho, hQ⟩ := he H enc w n' cs' _ h2 (hel i hil)
      exact ⟨y, cs', h1, hK, ho, hQ⟩)
    have hspot : 0 < len → a.spot = none := fun hp => by
      obtain ⟨y, hy⟩ : ∃ y, l[0]? = some y := ⟨_, List.getElem?_eq_getElem (by omega)⟩
      obtain ⟨cs', h1, _⟩ := hs 0 y hy
      obtain ⟨_, hcl, hat⟩ := World.cells?_some h1
      have h2 := hat 0 (by omega)
      rw [List.getElem?_eq_getElem (by omega)] at h2
      simp only [Nat.zero_mul, Addr.add, if_true] at h2
      unfold World.cell? at h2
      split at h2
      · split at h2
        · cases h2
        · rename_i hsp
          simpa using hsp
      · cases h2
    refine ⟨l, rcs_one ?_, fun v hv => by simp at hv; subst hv; rfl, by omega, fun y hy => ?_⟩
    · simp only [RC]
      have hlen : (l.flatMap mk).length = l.length * sz := by
        have : ∀ l : List α, (l.flatMap mk).length = l.length * sz := by
          intro l
          induction l with
          | nil => simp
          | cons a l ih => rw [List.flatMap_cons, List.length_append, ih, hsz, List.length_cons, Nat.succ_mul]; omega
        exact this l
      refine ⟨(fun _ h => nomatch h), some a, cap, by rw [hll], by omega, (fun h => nomatch h), hlen, fun hp => ?_⟩
      have hsp := hspot (by omega)
      obtain ⟨vs, h3, h4⟩ := row_cells (w := w) hsz (b := a.block) l a.off (fun i y hy => by
        obtain ⟨cs', h1, hK, ho, _⟩ := hs i y hy
        obtain ⟨_, hcl, hat⟩ := World.cells?_some h1
        refine ⟨cs', hK, fun j v hv => ?_⟩
        have hj : j < cs'.length := (List.getElem?_eq_some_iff.1 hv).1
        have h2 := hat j (by omega)
        rw [hv] at h2
        refine sg0_mk ?_ (ho v (List.mem_of_getElem? hv))
        rw [← h2, add_add, hc]
        unfold Addr.add
        split
        · rename_i h0
          rw [← hsp, show a.off + i * sz + j = a.off by omega]
        · rw [Nat.add_assoc])
      refine ⟨a.block, a.off, vs, by rw [← hsp], h3, h4⟩
    · obtain ⟨i, hi', e'⟩ := List.getElem_of_mem hy
      obtain ⟨_, _, _, _, hQ⟩ := hs i y (by rw [List.getElem?_eq_getElem hi', e'])
      exact hQ
theorem Opens.eq {α : Type} {P : Program} {t : TypeId} {mk mk' : α → List PV} {Q : α → Prop} (h : Opens P t mk Q) (e : ∀ a, mk a = mk' a) : Opens P t mk' Q := fun H enc w n cs x hx hl => by
  obtain ⟨a, h1, h2, h3⟩ := h H enc w n cs x hx hl
  exact ⟨a, by rw [← e]; exact h1, h2, h3⟩
/-- .. where an element is one cell. -/
theorem opens_slice1 {α : Type} {P : Program} {t e : TypeId} {m : α → PV} {Q : α → Prop} (ht : P.underlying t = some (.slice e)) (hc : P.cellsOf e = 1) (hby : 0 < P.bytesOf e) (he : Opens P e (fun a => [m a]) Q) :
    Opens P t (fun l : List α => [.sl .no 1 l.length (l.map m)]) (fun l : List α => l.length ≤ room ∧ ∀ y ∈ l, Q y) :=
  (opens_slice ht hc (fun _ => rfl) (by decide) hby he).eq fun l => by
    have : l.flatMap (fun a => [m a]) = l.map m := by induction l with
      | nil => rfl
      | cons a l ih => rw [List.flatMap_cons, ih]; rfl
    rw [this]
/-- The fields of a struct, one behind the other: from cell 'off' on. -/
def OpensFs {α : Type} (P : Program) (fs : List Field) (off : Nat) (mk : α → List PV) (sz : Nat) (Q : α → Prop) : Prop :=
  ∀ (H : Type) (enc : TypeId × Value → H) (w : World) (n : Nat) (cs : List Value), cs.length = off + sz → (∀ f ∈ fs, ∃ x, DataW.trod enc P w 0 (fun _ => true) true n f.type ((cs.drop f.offset).take (P.cellsOf f.type)) = some x ∧ Light P f.type x.1) →
    ∃ a, RCs (sg0 w) (mk a) (cs.drop off) ∧ (∀ v ∈ cs.drop off, v.oneCell' = true) ∧ Q a
theorem opens_last {α : Type} {P : Program} {f : Field} {off sz : Nat} {mk : α → List PV} {Q : α → Prop} (ho : f.offset = off) (hc : P.cellsOf f.type = sz) (h : Opens P f.type mk Q) : OpensFs P [f] off mk sz Q := by
  intro H enc w n cs hl hf
  obtain ⟨x, hx, hlx⟩ := hf f (by simp)
  obtain ⟨a, hK, h1, hQ⟩ := h H enc w n _ _ hx hlx
  rw [ho, hc, List.take_of_length_le (by rw [List.length_drop]; omega)] at hK h1
  exact ⟨a, hK, h1, hQ⟩
theorem opens_more {α β : Type} {P : Program} {f : Field} {fs : List Field} {off off' sz sz' : Nat} {mk : α → List PV} {mk' : β → List PV} {Q : α → Prop} {Q' : β → Prop} (ho : f.offset = off) (hc : P.cellsOf f.type = sz) (hoff : off' = off + sz)
    (h : Opens P f.type mk Q) (h' : OpensFs P fs off' mk' sz' Q') : OpensFs P (f :: fs) off (fun a : α × β => mk a.1 ++ mk' a.2) (sz + sz') (fun a => Q a.1 ∧ Q' a.2) := by
  intro H enc w n cs hl hf
  obtain ⟨x, hx, hlx⟩ := hf f (by simp)
  obtain ⟨a, hK, h1, hQ⟩ := h H enc w n _ _ hx hlx
  obtain ⟨b, hK', h1', hQ'⟩ := h' H enc w n cs (by omega) (fun g hg => hf g (by simp [hg]))
  rw [ho, hc] at hK h1
  rw [hoff] at hK' h1'
  rw [← List.drop_drop] at hK' h1'
  have e : cs.drop off = (cs.drop off).take sz ++ (cs.drop off).drop sz := (List.take_append_drop _ _).symm
  refine ⟨(a, b), ?_, ?_, hQ, hQ'⟩
  · rw [e]; exact hK.append hK'
  · rw [e]
    intro v hv
    rcases List.mem_append.1 hv with hv | hv
    · exact h1 v hv
    · exact h1' v hv
theorem opens_struct {α : Type} {P : Program} {t : TypeId} {fs : Array Field} {mk : α → List PV} {Q : α → Prop} {sz : Nat} (ht : P.underlying t = some (.struct fs)) (hc : P.cellsOf t = sz) (h : OpensFs P fs.toList 0 mk sz Q) : Opens P t mk Q := by
  intro H enc w n cs x hx hlt
  obtain ⟨xs, n', _, hxe, hl, hxl, hat⟩ := DataW.trod_struct ht hx
  obtain ⟨a, hK, h1, hQ⟩ := h H enc w n' cs (by omega) (fun fd hfd => by
    obtain ⟨i, hi, e⟩ := List.getElem_of_mem hfd
    have hi' : i < fs.size := by simpa using hi
    have h1 := hat i fd (by rw [← e]; simp [Array.getElem?_eq_getElem hi'])
    refine ⟨xs[i]'(by omega), by rw [h1, List.getElem?_eq_getElem (by omega)], fun n hn => hlt n ?_⟩
    rw [hxe]
    simp only [DataW.weights, ht]
    exact DataW.weights_mem_each (j := i) (by rw [List.getElem?_map, List.getElem?_eq_getElem hi, e]; rfl) (by rw [List.getElem?_map, List.getElem?_eq_getElem (by omega)]; rfl) n hn)
  exact ⟨a, by simpa using hK, by simpa using h1, hQ⟩

theorem rv_agg {w : World} {cs : Array Value} {ps : List PV} (h : RCs (sg0 w) ps (Value.agg cs).cells.toList) : RV (gh0 w) [] (.agg ps) (.agg cs) := by
  simp only [RV]
  exact ⟨cs.toList, rfl, RVs.of_RCs h⟩
theorem rv_one {w : World} {v : Value} {p : PV} (hv : v.cells.toList = [v]) (h : RCs (sg0 w) [p] v.cells.toList) : RV (gh0 w) [] p v := by
  rw [hv] at h
  have h1 : RVs (gh0 w) [] [p] [v] := RVs.of_RCs h
  simp only [RVs] at h1
  obtain ⟨u, r, e, h2, _⟩ := h1
  cases e
  exact h2
theorem rvs_nil {g : Gh} {H : Hp} : RVs g H [] [] := by simp only [RVs]
theorem rvs_cons {g : Gh} {H : Hp} {p : PV} {ps : List PV} {v : Value} {vs : List Value} (h : RV g H p v) (h' : RVs g H ps vs) : RVs g H (p :: ps) (v :: vs) := by
  simp only [RVs]
  exact ⟨v, vs, rfl, h, h'⟩
theorem rv_int {g : Gh} {H : Hp} {k : IntKind} {n : Int} : RV g H (.int k n) (.int k n) := by simp only [RV]
theorem rv_bool {g : Gh} {H : Hp} {b : Bool} : RV g H (.bool b) (.bool b) := by simp only [RV]
theorem rv_str {g : Gh} {H : Hp} {s : ByteArray} : RV g H (.str s.data.toList) (.string s) := by simp only [RV]

/-- A law that the engine evaluates to true returns true, and the blocks that were there are as they were. -/
theorem law_calls {P : Program} (hmx : P.follows .mixedOrders = true) {ct : Nat → Option CF} {ov : Ov} (hct : TabOk P ct) (hov : OvOk P ov) {k f : Nat} {args : List PV} {H' : Hp} (h : evF ct ov k f args [] = some (.bool true, H'))
    {w : World} (hz : ∀ b, glob = some b → ∃ m, w.cell? ⟨b, 0, none⟩ = some (.int .i64 m)) (hk : ∀ b, b ∈ constB → ∃ cs el fr, w.heap[b]? = some (.cells cs el fr) ∧ blockOk b cs) {vs : List Value} (hv : RVs (gh0 w) [] args vs) :
    Calls P f ⟨vs⟩ w fun e w' => e = .returned (.bool true) ∧ Below w.heap.size w w' :=
  ((evF_ok hmx hct hov k f args [] _ _ h).2 (gh0 w) w vs (inv0 hz hk) hv).mono fun e w' ⟨v, g', he, _, hr, hx⟩ => by
    simp only [RV] at hr
    subst hr
    exact ⟨he, below0 hx⟩
end Go.Proofs.YtnljpfjoboafoaaDoor.Ev
