/- Regions that draw their order: told by the evaluator. -/
import Derived.Test.YtnljpfjoboafoaaDoorEv18
namespace Go.Proofs.YtnljpfjoboafoaaDoor.Ev
set_option linter.all false
open Go Go.RowKit

def edgesB : List Oper → Nat → Bool
  | [], _ => true
  | o :: r, k => (o.after.toList.all fun e => !Region.binds .any e || decide (e.on < k)) && edgesB r (k + 1)
theorem edgesB_spec : ∀ (l : List Oper) (k : Nat), edgesB l k = true → ∀ (i : Nat) o, l[i]? = some o → ∀ e ∈ o.after.toList, Region.binds .any e = true → e.on < k + i
  | [], _, _, i, o, h, _, _, _ => by simp at h
  | p :: r, k, h, i, o, hi, e, he, hb => by
    simp only [edgesB, Bool.and_eq_true] at h
    cases i with
    | zero =>
      simp at hi
      subst hi
      have := List.all_eq_true.1 h.1 e he
      simpa [hb] using this
    | succ i =>
      have := edgesB_spec r (k + 1) h.2 i o (by simpa using hi) e he hb
      omega

theorem putP_same {A A' : List PV} {d : Option Nat} {r v : PV} (h : putP A d r = putP A d v) (hl : A.length = A'.length) : putP A' d r = putP A' d v := by
  cases d with
  | none => rfl
  | some d =>
    simp only [putP] at h ⊢
    rcases Nat.lt_or_ge d A.length with hd | hd
    · have h1 := congrArg (fun l => l[d]?) h
      simp only [List.getElem?_set_self hd, Option.some.injEq] at h1
      rw [h1]
    · rw [List.set_eq_of_length_le (by omega), List.set_eq_of_length_le (by omega)]

section
variable {P : Program} {call : Nat → List PV → Hp → Option (PV × Hp)} {Q : Exit → Act → World → Prop} {ops : Array Oper} {cops : List CO} {B : List Nat} {T : Nat → List PV} {G : Nat → Hp} {val : Nat → PV} {L : Nat → Bool} {j : Nat} {cj : CO}

theorem rv_ptr_lt {g : Gh} {tm : List PV} {H : Hp} {a : Act} {w : World} (h : StOk g tm H a w) {x : X} (hx : ∀ n, x = .t n → True) : (∀ id off, x.ev tm = .ptr id off → (∃ n, x = .t n) → id < H.length) ∧ (∀ id off sz n, x.ev tm = .row id off sz n → (∃ n, x = .t n) → id < H.length) := by
  have key : ∀ (n : Nat) (p : PV), tm.getD n .bot = p → p ≠ .bot → ∃ v, RV g H p v := fun n p hp hne => by
    rw [List.getD_eq_getElem?_getD] at hp
    cases e : tm[n]? with
    | none => rw [e] at hp; exact absurd hp.symm hne
    | some q =>
      rw [e] at hp
      simp only [Option.getD_some] at hp
      subst hp
      obtain ⟨v, _, h2⟩ := h.tm.get e
      exact ⟨v, h2⟩
  refine ⟨fun id off he ⟨n, hn⟩ => ?_, fun id off sz m he ⟨n, hn⟩ => ?_⟩
  · subst hn
    obtain ⟨v, hv⟩ := key n _ he (by simp)
    simp only [RV] at hv
    exact hv.1
  · subst hn
    obtain ⟨v, hv⟩ := key n _ he (by simp)
    simp only [RV] at hv
    exact hv.1

/-- No constant is a number of an entry. -/
def X.pure : X → Bool
  | .t _ => true
  | .c (.ptr _ _) => false
  | .c (.row _ _ _ _) => false
  | .c _ => true

/-- What an operation does that may come up now is what it does in the order of the text. -/
theorem evO_at (hr : Run call cops T G val) (hm : May cops B L j cj) (hcl : ∀ m i, orderedB B m i = true → L i = true → L m = true) (hpure : cj.op.xs.all X.pure = true) {g : Gh} {a : Act} {w : World} (h : StOk g (sL cops (T 0) val L cops.length) (hL cops (G 0) G L cops.length) a w) :
    evO call cj (sL cops (T 0) val L cops.length) (hL cops (G 0) G L cops.length) = some (sL cops (T 0) val (updL L j) cops.length, hL cops (G 0) G (updL L j) cops.length) := by
  have hstep := hr.step j cj hm.at_
  have hput := hr.put j cj hm.at_
  have hslots : ∀ t ∈ cj.slots, (sL cops (T 0) val L cops.length).getD t .bot = (T j).getD t .bot := fun t ht => sL_slots hr hm ht
  have hlen : (T j).length = (sL cops (T 0) val L cops.length).length := by rw [sL_length, hr.T_length j (by have := hm.lt; omega)]
  have hw : wantP (sL cops (T 0) val L cops.length) cj.g = wantP (T j) cj.g := wantP_congr fun t b hg => hslots t (by simp [CO.slots, hg])
  have hxs : ∀ x ∈ cj.op.xs, x.ev (T j) = x.ev (sL cops (T 0) val L cops.length) := fun x hx => X.ev_congr fun t ht => (hslots t (List.mem_append_left _ (List.mem_flatMap.2 ⟨x, hx, ht⟩))).symm
  rw [sL_upd hm]
  unfold evO at hstep ⊢
  rw [hw]
  cases hwt : wantP (T j) cj.g with
  | none => rw [hwt] at hstep; cases hstep
  | some b =>
    rw [hwt] at hstep
    cases b with
    | false =>
      simp only [Option.some.injEq, Prod.mk.injEq] at hstep ⊢
      obtain ⟨h1, h2⟩ := hstep
      refine ⟨putP_same (h1.trans hput) hlen, ?_⟩
      cases hwr : cj.op.wr with
      | true => rw [hL_at hr hm hwr, hL_upd_wr hm hwr, h2]
      | false => rw [hL_upd_rd hm hwr]
    | true =>
      simp only at hstep ⊢
      cases he : evalOp call (T j) (G j) cj.op with
      | none => rw [he] at hstep; cases hstep
      | some x =>
        obtain ⟨r, H'⟩ := x
        rw [he] at hstep
        simp only [Option.some.injEq, Prod.mk.injEq] at hstep
        obtain ⟨h1, h2⟩ := hstep
        have hp := putP_same (h1.trans hput) hlen
        cases hwr : cj.op.wr with
        | true =>
          rw [hL_at hr hm hwr, hL_upd_wr hm hwr, ← evalOp_congr (G j) hxs, he]
          simp only [Option.some.injEq, Prod.mk.injEq]
          exact ⟨hp, h2⟩
        | false =>
          have hev : evalOp call (T j) (hL cops (G 0) G L cops.length) cj.op = some (r, hL cops (G 0) G L cops.length) := by
            cases hnc : cj.op.calm with
            | true => exact (evalOp_calm hnc he).2 _
            | false =>
              obtain ⟨_, hread⟩ := evalOp_read hwr he
              exact hread (hL cops (G 0) G L cops.length) (hL_cells hr hm hnc hwr hcl) (fun x hx => by
                have hxp := List.all_eq_true.1 hpure x hx
                rw [hxs x hx]
                have hpl := rv_ptr_lt h (x := x) (fun _ _ => trivial)
                cases x with
                | t n => exact ⟨fun id off e => hpl.1 id off e ⟨n, rfl⟩, fun id off sz m e => hpl.2 id off sz m e ⟨n, rfl⟩⟩
                | c v => exact ⟨fun id off e => by simp only [X.ev] at e; subst e; simp [X.pure] at hxp, fun id off sz m e => by simp only [X.ev] at e; subst e; simp [X.pure] at hxp⟩)
          rw [hL_upd_rd hm hwr, ← evalOp_congr _ hxs, hev]
          simp only [Option.some.injEq, Prod.mk.injEq]
          exact ⟨hp, trivial⟩

theorem sL_all (hr : Run call cops T G val) (hall : ∀ i, i < cops.length → L i = true) : ∀ k, k ≤ cops.length → sL cops (T 0) val L k = T k ∧ hL cops (G 0) G L k = G k
  | 0, _ => ⟨rfl, rfl⟩
  | k + 1, hk => by
    obtain ⟨h1, h2⟩ := sL_all hr hall k (by omega)
    have hc : cops[k]? = some cops[k] := List.getElem?_eq_getElem (by omega)
    simp only [sL, hL, hall k (by omega), if_true, Bool.true_and]
    refine ⟨by rw [h1, hr.put k _ hc, dstAt_eq hc], ?_⟩
    cases hw : wrAt cops k with
    | true => simp
    | false => simp only [Bool.false_eq_true, if_false]; rw [h2, hr.same (by omega) hw]

theorem any_wp (hcall : CallOk P call) {cfg : Nat → Nat} (hr : Run call cops T G val) (hlen : cops.length = ops.size) (hc : ∀ (i : Nat) o, ops[i]? = some o → ∃ c, cops[i]? = some c ∧ compO P ops (cfgOf cfg o.dst) o = some c)
    (hok : drawOk (befs ops.toList []) cops = true) (hed : edgesB ops.toList 0 = true) (hpure : ∀ c ∈ cops, c.op.xs.all X.pure = true) {g0 : Gh} {H0 : Hp} {w0 : World}
    (hQ : ∀ a' w' g', StOk g' (T cops.length) (G cops.length) a' w' → Ext g0 H0 w0 g' (G cops.length) w' → Q .normal a' w') :
    ∀ (fuel : Nat) (listed : Array Bool) (a : Act) (w : World), listed.size = ops.size → ClosedL ops (fun i => listed.getD i false) → listed.toList.count false = fuel →
      (∃ g, StOk g (sL cops (T 0) val (fun i => listed.getD i false) cops.length) (hL cops (G 0) G (fun i => listed.getD i false) cops.length) a w ∧ Ext g0 H0 w0 g (hL cops (G 0) G (fun i => listed.getD i false) cops.length) w) → wpAny P .any ops Q fuel listed a w := by
  intro fuel
  have hdone : ∀ (listed : Array Bool) (a : Act) (w : World), listed.size = ops.size → (∀ i, i < ops.size → listed.getD i false = true) →
      (∃ g, StOk g (sL cops (T 0) val (fun i => listed.getD i false) cops.length) (hL cops (G 0) G (fun i => listed.getD i false) cops.length) a w ∧ Ext g0 H0 w0 g (hL cops (G 0) G (fun i => listed.getD i false) cops.length) w) → Q .normal a w := fun listed a w hs hall ⟨g, h1, h2⟩ => by
    obtain ⟨e1, e2⟩ := sL_all hr (L := fun i => listed.getD i false) (fun i hi => hall i (by omega)) cops.length (Nat.le_refl _)
    rw [e1, e2] at h1
    rw [e2] at h2
    exact hQ a w g h1 h2
  induction fuel with
  | zero =>
    intro listed a w hs hcl hcnt hst
    have hall : ∀ i, i < ops.size → listed.getD i false = true := fun i hi => by
      have hi' : i < listed.size := by omega
      have hn : false ∉ listed.toList := List.count_eq_zero.1 hcnt
      rw [Array.getD_eq_getD_getElem?, Array.getElem?_eq_getElem hi']
      simp only [Option.getD_some]
      cases hx : listed[i] with
      | true => rfl
      | false => exact absurd (by rw [← hx]; simp) hn
    refine ⟨?_, hdone listed a w hs hall hst⟩
    rw [List.eq_nil_iff_forall_not_mem]
    intro i hi
    obtain ⟨hu, o, ho, _⟩ := mem_ready.1 hi
    have hi' : i < ops.size := (Array.getElem?_eq_some_iff.1 ho).1
    rw [getD_tf (by omega) true false, hall i hi'] at hu
    cases hu
  | succ fuel ih =>
    intro listed a w hs hcl hcnt hst
    refine ⟨fun hnil => ?_, fun i hi => ?_⟩
    · exfalso
      -- the first unlisted one may come up
      have hex : ∃ i, i < ops.size ∧ listed.getD i false = false ∧ ∀ k, k < i → listed.getD k false = true := by
        have hmem : false ∈ listed.toList := by
          have : 0 < listed.toList.count false := by omega
          exact List.count_pos_iff.1 this
        have hlt := List.findIdx_lt_length_of_exists (p := fun b => !b) ⟨false, hmem, rfl⟩
        refine ⟨listed.toList.findIdx fun b => !b, by simpa [hs] using hlt, ?_, fun k hk => ?_⟩
        · have := List.findIdx_getElem (w := hlt)
          rw [Array.getD_eq_getD_getElem?, Array.getElem?_eq_getElem (by simpa using hlt)]
          simpa using this
        · have := List.not_of_lt_findIdx hk
          have hk' : k < listed.size := by have : listed.toList.length = listed.size := by simp
                                           omega
          rw [Array.getD_eq_getD_getElem?, Array.getElem?_eq_getElem hk']
          simpa using this
      obtain ⟨i, hi, hu, hbef⟩ := hex
      have hoi : ops[i]? = some ops[i] := Array.getElem?_eq_getElem hi
      have : i ∈ Region.ready .any ops listed := mem_ready.2 ⟨by rw [getD_tf (by omega) true false]; exact hu, ops[i], hoi, fun e he hb => hbef e.on (by
        have := edgesB_spec ops.toList 0 hed i ops[i] (by simpa using hoi) e (by simpa using he) hb
        omega)⟩
      rw [hnil] at this
      cases this
    · obtain ⟨hu, o, ho, hall⟩ := mem_ready.1 hi
      have hilt : i < ops.size := (Array.getElem?_eq_some_iff.1 ho).1
      have hu' : listed.getD i false = false := by rw [← getD_tf (by omega) true false]; exact hu
      obtain ⟨c, hci, hco⟩ := hc i o ho
      have hupd : (fun k => (listed.setIfInBounds i true).getD k false) = updL (fun k => listed.getD k false) i := by
        funext k
        by_cases hk : k = i
        · subst hk; rw [updL_self]; simp [Array.getD_eq_getD_getElem?, show k < listed.size by omega]
        · rw [updL_ne hk]; simp only [Array.getD_eq_getD_getElem?]; rw [Array.getElem?_setIfInBounds_ne (by omega)]
      have hcl' : ClosedL ops (updL (fun k => listed.getD k false) i) := fun k o' hk hL e he hb => by
        by_cases hki : k = i
        · subst hki
          rw [ho] at hk
          cases hk
          have := hall e (by simpa using he) hb
          by_cases hon : e.on = k
          · rw [hon, updL_self]
          · rw [updL_ne hon]; exact this
        · rw [updL_ne hki] at hL
          have := hcl k o' hk hL e he hb
          by_cases hon : e.on = i
          · rw [hon, updL_self]
          · rw [updL_ne hon]; exact this
      have hbef : ∀ {L : Nat → Bool}, ClosedL ops L → ∀ m k, orderedB (befs ops.toList []) m k = true → L k = true → L m = true := fun hL m k ho hk =>
        befs_ok hL ops.toList [] (fun i o h => by simpa using h) (fun j i h _ => by simp at h) k m ho hk
      have hm : May cops (befs ops.toList []) (fun k => listed.getD k false) i c :=
        { at_ := hci
          un := hu'
          pre := fun k hk hor => by
            have := hbef hcl' k i hor updL_self
            rwa [updL_ne (by omega)] at this
          post := fun k hk hL => by
            cases hor : orderedB (befs ops.toList []) i k with
            | false => rfl
            | true =>
              have := hbef hcl i k hor hL
              rw [hu'] at this
              cases this
          ok := hok }
      obtain ⟨g, hst1, hst2⟩ := hst
      have hev := evO_at hr hm (hbef hcl) (hpure c (List.mem_of_getElem? hci)) hst1
      refine step_wp hcall hst1 ho hco hev fun a' w' g' h1 h2 => ih (listed.setIfInBounds i true) a' w' (by simpa using hs) (by rw [hupd]; exact hcl') ?_ (by rw [hupd]; exact ⟨g', h1, hst2.trans h2⟩)
      have hil : i < listed.toList.length := by simp; omega
      have hget : listed.toList[i] = false := by
        rw [Array.getD_eq_getD_getElem?, Array.getElem?_eq_getElem (by omega)] at hu'
        simpa using hu'
      rw [Array.toList_setIfInBounds, List.count_set hil, hget]
      simp [hcnt]

theorem rep_false (n i : Nat) : (Array.replicate n false).getD i false = false := by
  rw [Array.getD_eq_getD_getElem?, Array.getElem?_replicate]
  split <;> rfl
theorem compOs_get {cfg : Nat → Nat} : ∀ (l : List Oper) (cops : List CO), compOs P ops cfg l = some cops → cops.length = l.length ∧ ∀ (i : Nat) o, l[i]? = some o → ∃ c, cops[i]? = some c ∧ compO P ops (cfgOf cfg o.dst) o = some c
  | [], cops, h => by simp only [compOs, Option.some.injEq] at h; subst h; exact ⟨rfl, fun i o h => by simp at h⟩
  | p :: r, cops, h => by
    simp only [compOs] at h
    split at h
    · rename_i c l h1 h2
      cases h
      obtain ⟨h3, h4⟩ := compOs_get r l h2
      refine ⟨by simp [h3], fun i o hi => ?_⟩
      cases i with
      | zero => simp at hi; subst hi; exact ⟨c, rfl, h1⟩
      | succ i => simpa using h4 i o (by simpa using hi)
    · cases h

/-- A region that draws its order. -/
theorem draw_wp (hcall : CallOk P call) (hmx : P.follows .mixedOrders = true) {cfg : Nat → Nat} {id : Nat} (hc : compOs P ops cfg ops.toList = some cops) (hok : drawOk (befs ops.toList []) cops = true) (hed : edgesB ops.toList 0 = true) (hpure : (cops.all fun c => c.op.xs.all X.pure) = true)
    {g : Gh} {tm : List PV} {H : Hp} {a : Act} {w : World} (h : StOk g tm H a w) {tm' : List PV} {H' : Hp}
    (he : evOs call cops tm H = some (tm', H')) (hQ : ∀ a' w' g', StOk g' tm' H' a' w' → Ext g H w g' H' w' → Q .normal a' w') : (Code.region id ops true).wp P Q a w := by
  obtain ⟨T, G, val, hr, h1, h2, h3, h4⟩ := run_of cops tm H tm' H' he
  obtain ⟨hl, hget⟩ := compOs_get ops.toList cops hc
  have hheap : ({ w with drawn := w.drawn + 1 } : World).heap = w.heap := rfl
  refine wp_region_any hmx (any_wp hcall hr (by simpa using hl) (fun i o ho => hget i o (by simpa using ho)) hok hed (fun c hc => List.all_eq_true.1 hpure c hc) (g0 := g) (H0 := H) (w0 := w) (fun a' w' g' hs hE => hQ a' w' g' (by rw [← h3, ← h4]; exact hs) (by rw [← h4]; exact hE)) ops.size _ a _ (by simp) (fun j o ho hL => by simp only [rep_false] at hL; cases hL) ?_ ?_)
  · simp [List.count_replicate]
  · have hno : ∀ k, sL cops (T 0) val (fun i => (Array.replicate ops.size false).getD i false) k = T 0 ∧ hL cops (G 0) G (fun i => (Array.replicate ops.size false).getD i false) k = G 0 := fun k => by
      induction k with
      | zero => exact ⟨rfl, rfl⟩
      | succ k ih => simp only [sL, hL, rep_false, Bool.false_and, Bool.false_eq_true, if_false]; simpa only [rep_false] using ih
    rw [(hno _).1, (hno _).2, h1, h2]
    exact ⟨g, ⟨h.tm, h.inv.heap hheap, h.defers⟩, Ext.heap g H hheap rfl rfl rfl⟩
end
end Go.Proofs.YtnljpfjoboafoaaDoor.Ev
