/- Regions that draw their order, in which variables are made and written: whatever the order, what the evaluator tells of the order of the text, where what is written is not what else is read. -/
import Derived.Test.YtnljpfjoboafoaaDoorEv19
namespace Go.Proofs.YtnljpfjoboafoaaDoor.Ev
set_option linter.all false
open Go Go.RowKit

/-- What is looked at behind a pointer. -/
def COp.rd : COp → List X
  | .load _ _ a => [a]
  | .store _ a _ => [a]
  | .b2s x => [x]
  | _ => []
def COp.fresh : COp → Bool
  | .alloc _ | .box _ => true
  | _ => false
def COp.isSt : COp → Bool
  | .store _ _ _ => true
  | _ => false
def COp.easy (o : COp) : Bool := o.fresh || o.isSt || !o.wr
def slotApart (x y : CO) : Bool :=
  (match x.dst with | some d => !(y.slots.contains d) && (y.dst != some d) | none => true) && (match y.dst with | some d => !(x.slots.contains d) | none => true)
def refsOf (c : CO) : List X := if c.op.fresh then (match c.dst with | some d => [.t d] | none => []) else c.op.rd
def keepsX (l : List CO) : X → Bool
  | .t t => l.all fun c => c.dst != some t
  | .c _ => true
/-- What is looked at behind stays in its slot. -/
def finOk : List CO → Bool
  | [] => true
  | c :: r => (if c.op.fresh then (match c.dst with | some d => keepsX r (.t d) | none => false) else c.op.rd.all (keepsX (c :: r))) && finOk r
def easyOk (B : List Nat) (cops : List CO) : Bool :=
  (cops.all fun c => c.op.easy) && finOk cops && cops.zipIdx.all fun (y, j) => cops.zipIdx.all fun (x, i) => !(i < j) || orderedB B i j || slotApart x y
/-- What is to be unlike behind it. -/
def difs (B : List Nat) (cops : List CO) : List CO :=
  cops.zipIdx.flatMap fun (y, j) => cops.zipIdx.flatMap fun (x, i) => if (decide (i < j) && !orderedB B i j && (x.op.isSt || y.op.isSt)) = true then (refsOf x).flatMap fun a => (refsOf y).map fun b => ⟨none, .dif a b, none⟩ else []
def Dif (tm : List PV) (a b : X) : Prop := (a.ev tm).isBot = false ∧ (b.ev tm).isBot = false ∧ ∀ u v, (a.ev tm).id? = some u → (b.ev tm).id? = some v → u ≠ v

section
variable {P : Program} {call : Nat → List PV → Hp → Option (PV × Hp)} {Q : Exit → Act → World → Prop} {ops : Array Oper} {cops : List CO} {B : List Nat} {T : Nat → List PV} {G : Nat → Hp} {val : Nat → PV} {L : Nat → Bool} {j : Nat} {cj : CO}

theorem evOs_difs : ∀ (l : List CO) {tm : List PV} {H : Hp} {tm' : List PV} {H' : Hp}, (∀ c ∈ l, ∃ a b, c = ⟨none, .dif a b, none⟩) → evOs call l tm H = some (tm', H') → tm' = tm ∧ H' = H ∧ ∀ a b, (⟨none, .dif a b, none⟩ : CO) ∈ l → Dif tm a b
  | [], tm, H, tm', H', _, h => by
    simp only [evOs, Option.some.injEq, Prod.mk.injEq] at h
    exact ⟨h.1.symm, h.2.symm, fun a b h => by cases h⟩
  | c :: r, tm, H, tm', H', hc, h => by
    obtain ⟨a, b, rfl⟩ := hc c (by simp)
    simp only [evOs, evO, wantP, evalOp] at h
    by_cases hb : (a.ev tm).isBot = true ∨ (b.ev tm).isBot = true
    · rw [if_pos hb] at h; cases h
    · rw [if_neg hb] at h
      have key : (∀ u v, (a.ev tm).id? = some u → (b.ev tm).id? = some v → u ≠ v) ∧ evOs call r tm H = some (tm', H') := by
        split at h
        · rename_i x hx
          split at hx
          · rename_i x' hx'
            split at hx'
            · rename_i u v hu hv
              split at hx'
              · rename_i huv
                cases hx'
                cases hx
                refine ⟨fun u' v' h1 h2 => ?_, h⟩
                rw [hu] at h1; rw [hv] at h2
                cases h1; cases h2
                exact huv
              · cases hx'
            · rename_i hno
              cases hx'
              cases hx
              exact ⟨fun u v h1 h2 => absurd h2 (hno u v h1), h⟩
          · cases hx
        · cases h
      obtain ⟨h1, h2, h3⟩ := evOs_difs r (fun c hc' => hc c (by simp [hc'])) key.2
      refine ⟨h1, h2, fun a' b' hm => ?_⟩
      rcases List.mem_cons.1 hm with he | hm
      · cases he
        simp only [not_or, Bool.not_eq_true] at hb
        exact ⟨hb.1, hb.2, key.1⟩
      · exact h3 a' b' hm
theorem difs_shape {c : CO} (h : c ∈ difs B cops) : ∃ a b, c = ⟨none, .dif a b, none⟩ := by
  unfold difs at h
  simp only [List.mem_flatMap] at h
  obtain ⟨⟨y, j⟩, _, ⟨x, i⟩, _, h⟩ := h
  split at h
  · simp only [List.mem_flatMap, List.mem_map] at h
    obtain ⟨a, _, b, _, rfl⟩ := h
    exact ⟨a, b, rfl⟩
  · cases h
theorem mem_difs {i j : Nat} {x y : CO} (hx : cops[i]? = some x) (hy : cops[j]? = some y) (hlt : i < j) (ho : orderedB B i j = false) (hs : x.op.isSt = true ∨ y.op.isSt = true) {a b : X} (ha : a ∈ refsOf x) (hb : b ∈ refsOf y) : (⟨none, .dif a b, none⟩ : CO) ∈ difs B cops := by
  unfold difs
  simp only [List.mem_flatMap]
  refine ⟨(y, j), by rw [List.mem_iff_getElem?]; exact ⟨j, by simp [List.getElem?_zipIdx, hy]⟩, (x, i), by rw [List.mem_iff_getElem?]; exact ⟨i, by simp [List.getElem?_zipIdx, hx]⟩, ?_⟩
  have hc : (decide (i < j) && !orderedB B i j && (x.op.isSt || y.op.isSt)) = true := by
    simp only [hlt, ho, decide_true, Bool.not_false, Bool.true_and, Bool.or_eq_true]
    exact hs
  rw [if_pos hc]
  simp only [List.mem_flatMap, List.mem_map]
  exact ⟨a, ha, b, hb, rfl⟩

theorem easyOk_spec (h : easyOk B cops = true) : (∀ (i : Nat) c, cops[i]? = some c → c.op.easy = true) ∧ finOk cops = true ∧ ∀ (i j : Nat) x y, cops[i]? = some x → cops[j]? = some y → i < j → orderedB B i j = false → slotApart x y = true := by
  simp only [easyOk, Bool.and_eq_true] at h
  obtain ⟨⟨h1, h2⟩, h3⟩ := h
  refine ⟨fun i c hc => List.all_eq_true.1 h1 c (List.mem_of_getElem? hc), h2, fun i j x y hx hy hlt ho => ?_⟩
  have h4 := List.all_eq_true.1 h3 (y, j) (by rw [List.mem_iff_getElem?]; exact ⟨j, by simp [List.getElem?_zipIdx, hy]⟩)
  have h5 := List.all_eq_true.1 h4 (x, i) (by rw [List.mem_iff_getElem?]; exact ⟨i, by simp [List.getElem?_zipIdx, hx]⟩)
  simpa [hlt, ho] using h5
theorem slotApart_spec {x y : CO} (h : slotApart x y = true) : (∀ d, x.dst = some d → d ∉ y.slots) ∧ (∀ d, x.dst = some d → y.dst ≠ some d) ∧ (∀ d, y.dst = some d → d ∉ x.slots) := by
  simp only [slotApart, Bool.and_eq_true] at h
  obtain ⟨h1, h2⟩ := h
  refine ⟨fun d hd => ?_, fun d hd => ?_, fun d hd => ?_⟩
  · rw [hd] at h1; simp at h1; exact h1.1
  · rw [hd] at h1; simp at h1; exact h1.2
  · rw [hd] at h2; simp at h2; exact h2

/-- What is known of an operation that may come up now. -/
structure Mz (cops : List CO) (L : Nat → Bool) (j : Nat) (cj : CO) : Prop where
  at_ : cops[j]? = some cj
  un : L j = false
  ah : ∀ (i : Nat) c, cops[i]? = some c → i < j → L i = false → slotApart c cj = true
  be : ∀ (i : Nat) c, cops[i]? = some c → j < i → L i = true → slotApart cj c = true
theorem Mz.lt (h : Mz cops L j cj) : j < cops.length := (List.getElem?_eq_some_iff.1 h.at_).1
theorem zL_ahead (hr : Run call cops T G val) (hm : Mz cops L j cj) {t : Nat} (ht : t ∈ cj.slots) : ∀ k, k ≤ j → (sL cops (T 0) val L k).getD t .bot = (T k).getD t .bot
  | 0, _ => rfl
  | k + 1, hk => by
    have hlt := hm.lt
    have hc : cops[k]? = some cops[k] := List.getElem?_eq_getElem (by omega)
    have ih := zL_ahead hr hm ht k (by omega)
    rw [hr.put k _ hc]
    simp only [sL]
    cases hL : L k with
    | true =>
      simp only [if_true, dstAt_eq hc]
      by_cases hd : (cops[k]).dst = some t
      · rw [hd]
        exact putP_self (by rw [sL_length, hr.T_length k (by omega)])
      · rw [putP_getD hd, putP_getD hd, ih]
    | false =>
      simp only [Bool.false_eq_true, if_false]
      have hap := slotApart_spec (hm.ah k _ hc (by omega) hL)
      rw [putP_getD (fun hd => hap.1 t hd ht), ih]
theorem zL_behind (hm : Mz cops L j cj) {tm : List PV} {t : Nat} (ht : t ∈ cj.slots) : ∀ m, j + m ≤ cops.length → (sL cops tm val L (j + m)).getD t .bot = (sL cops tm val L j).getD t .bot
  | 0, _ => rfl
  | m + 1, hk => by
    have hc : cops[j + m]? = some cops[j + m] := List.getElem?_eq_getElem (by omega)
    rw [← Nat.add_assoc]
    simp only [sL]
    cases hL : L (j + m) with
    | true =>
      have hne : m ≠ 0 := fun h0 => by subst h0; rw [Nat.add_zero, hm.un] at hL; cases hL
      have hap := slotApart_spec (hm.be _ _ hc (by omega) hL)
      simp only [if_true, dstAt_eq hc]
      rw [putP_getD (fun hd => hap.2.2 t hd ht), zL_behind hm ht m (by omega)]
    | false =>
      simp only [Bool.false_eq_true, if_false]
      exact zL_behind hm ht m (by omega)
theorem zL_slots (hr : Run call cops T G val) (hm : Mz cops L j cj) {t : Nat} (ht : t ∈ cj.slots) : (sL cops (T 0) val L cops.length).getD t .bot = (T j).getD t .bot := by
  have hlt := hm.lt
  have h1 := zL_behind (val := val) hm (tm := T 0) ht (cops.length - j) (by omega)
  rw [show j + (cops.length - j) = cops.length by omega] at h1
  rw [h1, zL_ahead hr hm ht j (Nat.le_refl _)]
theorem zL_upd (hm : Mz cops L j cj) {tm : List PV} : sL cops tm val (updL L j) cops.length = putP (sL cops tm val L cops.length) cj.dst (val j) := by
  have hlt := hm.lt
  have key : ∀ m, j + 1 + m ≤ cops.length → sL cops tm val (updL L j) (j + 1 + m) = putP (sL cops tm val L (j + 1 + m)) cj.dst (val j) := fun m => by
    induction m with
    | zero =>
      intro _
      simp only [Nat.add_zero, sL]
      rw [updL_self, if_pos rfl, hm.un, if_neg (by simp), sL_upd_ahead j (Nat.le_refl _), dstAt_eq hm.at_]
    | succ m ih =>
      intro hk
      have ih := ih (by omega)
      have hc : cops[j + 1 + m]? = some cops[j + 1 + m] := List.getElem?_eq_getElem (by omega)
      rw [← Nat.add_assoc]
      simp only [sL]
      rw [updL_ne (by omega)]
      cases hL : L (j + 1 + m) with
      | true =>
        have hap := slotApart_spec (hm.be _ _ hc (by omega) hL)
        simp only [if_true, dstAt_eq hc]
        rw [ih, putP_comm hap.2.1]
      | false =>
        simp only [Bool.false_eq_true, if_false]
        exact ih
  have := key (cops.length - (j + 1)) (by omega)
  rwa [show j + 1 + (cops.length - (j + 1)) = cops.length by omega] at this

theorem any_gen (hed : edgesB ops.toList 0 = true) {J : (Nat → Bool) → Act → World → Prop} (hdone : ∀ (L : Nat → Bool) (a : Act) (w : World), (∀ i, i < ops.size → L i = true) → J L a w → Q .normal a w)
    (hstep : ∀ (L : Nat → Bool) (j : Nat) (o : Oper) (a : Act) (w : World), ops[j]? = some o → L j = false → (∀ i, i < j → orderedB (befs ops.toList []) i j = true → L i = true) → (∀ i, j < i → L i = true → orderedB (befs ops.toList []) j i = false) →
      (∀ m i, orderedB (befs ops.toList []) m i = true → L i = true → L m = true) → J L a w → ∀ {K : Act → World → Prop}, (∀ a' w', J (updL L j) a' w' → K a' w') → wpOp P ops Q j K a w) :
    ∀ (fuel : Nat) (listed : Array Bool) (a : Act) (w : World), listed.size = ops.size → ClosedL ops (fun i => listed.getD i false) → listed.toList.count false = fuel → J (fun i => listed.getD i false) a w → wpAny P .any ops Q fuel listed a w := by
  intro fuel
  induction fuel with
  | zero =>
    intro listed a w hs hcl hcnt hst
    have hall : ∀ i, i < ops.size → listed.getD i false = true := fun i hi => by
      have hi' : i < listed.size := by omega
      have hn : false ∉ listed.toList := List.count_eq_zero.1 hcnt
      rw [Array.getD_eq_getD_getElem?, Array.getElem?_eq_getElem hi']
      simp only [Option.getD_some]
      cases hx : listed[i] with
      | true => rfl
      | false => exact absurd (by rw [← hx]; simp) hn
    refine ⟨?_, hdone _ a w hall hst⟩
    rw [List.eq_nil_iff_forall_not_mem]
    intro i hi
    obtain ⟨hu, o, ho, _⟩ := mem_ready.1 hi
    have hi' : i < ops.size := (Array.getElem?_eq_some_iff.1 ho).1
    rw [getD_tf (by omega) true false, hall i hi'] at hu
    cases hu
  | succ fuel ih =>
    intro listed a w hs hcl hcnt hst
    refine ⟨fun hnil => ?_, fun i hi => ?_⟩
    · exfalso
      -- the first unlisted one may come up
      have hex : ∃ i, i < ops.size ∧ listed.getD i false = false ∧ ∀ k, k < i → listed.getD k false = true := by
        have hmem : false ∈ listed.toList := by
          have : 0 < listed.toList.count false := by omega
          exact List.count_pos_iff.1 this
        have hlt := List.findIdx_lt_length_of_exists (p := fun b => !b) ⟨false, hmem, rfl⟩
        refine ⟨listed.toList.findIdx fun b => !b, by simpa [hs] using hlt, ?_, fun k hk => ?_⟩
        · have := List.findIdx_getElem (w := hlt)
          rw [Array.getD_eq_getD_getElem?, Array.getElem?_eq_getElem (by simpa using hlt)]
          simpa using this
        · have := List.not_of_lt_findIdx hk
          have hk' : k < listed.size := by have : listed.toList.length = listed.size := by simp
                                           omega
          rw [Array.getD_eq_getD_getElem?, Array.getElem?_eq_getElem hk']
          simpa using this
      obtain ⟨i, hi, hu, hbef⟩ := hex
      have hoi : ops[i]? = some ops[i] := Array.getElem?_eq_getElem hi
      have : i ∈ Region.ready .any ops listed := mem_ready.2 ⟨by rw [getD_tf (by omega) true false]; exact hu, ops[i], hoi, fun e he hb => hbef e.on (by
        have := edgesB_spec ops.toList 0 hed i ops[i] (by simpa using hoi) e (by simpa using he) hb
        omega)⟩
      rw [hnil] at this
      cases this
    · obtain ⟨hu, o, ho, hall⟩ := mem_ready.1 hi
      have hilt : i < ops.size := (Array.getElem?_eq_some_iff.1 ho).1
      have hu' : listed.getD i false = false := by rw [← getD_tf (by omega) true false]; exact hu
      have hupd : (fun k => (listed.setIfInBounds i true).getD k false) = updL (fun k => listed.getD k false) i := by
        funext k
        by_cases hk : k = i
        · subst hk; rw [updL_self]; simp [Array.getD_eq_getD_getElem?, show k < listed.size by omega]
        · rw [updL_ne hk]; simp only [Array.getD_eq_getD_getElem?]; rw [Array.getElem?_setIfInBounds_ne (by omega)]
      have hcl' : ClosedL ops (updL (fun k => listed.getD k false) i) := fun k o' hk hL e he hb => by
        by_cases hki : k = i
        · subst hki
          rw [ho] at hk
          cases hk
          have := hall e (by simpa using he) hb
          by_cases hon : e.on = k
          · rw [hon, updL_self]
          · rw [updL_ne hon]; exact this
        · rw [updL_ne hki] at hL
          have := hcl k o' hk hL e he hb
          by_cases hon : e.on = i
          · rw [hon, updL_self]
          · rw [updL_ne hon]; exact this
      have hbef : ∀ {L : Nat → Bool}, ClosedL ops L → ∀ m k, orderedB (befs ops.toList []) m k = true → L k = true → L m = true := fun hL m k ho hk =>
        befs_ok hL ops.toList [] (fun i o h => by simpa using h) (fun j i h _ => by simp at h) k m ho hk
      refine hstep (fun k => listed.getD k false) i o a w ho hu' (fun k hk hor => by
          have := hbef hcl' k i hor updL_self
          rwa [updL_ne (by omega)] at this) (fun k hk hL => by
          cases hor : orderedB (befs ops.toList []) i k with
          | false => rfl
          | true =>
            have := hbef hcl i k hor hL
            rw [hu'] at this
            cases this) (hbef hcl) hst fun a' w' h1 => ih (listed.setIfInBounds i true) a' w' (by simpa using hs) (by rw [hupd]; exact hcl') ?_ (by rw [hupd]; exact h1)
      have hil : i < listed.toList.length := by simp; omega
      have hget : listed.toList[i] = false := by
        rw [Array.getD_eq_getD_getElem?, Array.getElem?_eq_getElem (by omega)] at hu'
        simpa using hu'
      rw [Array.toList_setIfInBounds, List.count_set hil, hget]
      simp [hcnt]

end
end Go.Proofs.YtnljpfjoboafoaaDoor.Ev
