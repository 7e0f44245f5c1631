/- Regions in the order of the text; what an operation looks at. -/
import Derived.Test.YtnljpfjoboafoaaDoorEv14
namespace Go.Proofs.YtnljpfjoboafoaaDoor.Ev
set_option linter.all false
open Go Go.RowKit

def cfgOf (cfg : Nat → Nat) : Option Nat → Nat
  | some d => cfg d
  | none => 0
def compOs (P : Program) (ops : Array Oper) (cfg : Nat → Nat) : List Oper → Option (List CO)
  | [] => some []
  | o :: r => match compO P ops (cfgOf cfg o.dst) o, compOs P ops cfg r with | some c, some l => some (c :: l) | _, _ => none

section
variable {P : Program} {call : Nat → List PV → Hp → Option (PV × Hp)} {Q : Exit → Act → World → Prop} {ops : Array Oper}

theorem compO_dst {fl : Nat} {o : Oper} {c : CO} (h : compO P ops fl o = some c) : c.dst = o.dst ∧ c.op = comp P fl o := by
  unfold compO at h
  split at h
  · cases h; exact ⟨rfl, rfl⟩
  · split at h
    · cases h; exact ⟨rfl, rfl⟩
    · cases h

theorem wantP_ok {g : Gh} {H : Hp} {tm : List PV} {a : Act} (ht : RVs g H tm a.tmps.toList) {fl : Nat} {o : Oper} {c : CO} (h : compO P ops fl o = some c) {b : Bool} (hw : wantP tm c.g = some b) : Region.wanted o (yielded ops a.tmps) = b := by
  unfold compO at h
  split at h
  · rename_i hg
    cases h
    simp only [wantP, Option.some.injEq] at hw
    subst hw
    simp only [Region.wanted, hg]
  · rename_i j b' hg
    split at h
    · rename_i d hd
      cases h
      simp only [wantP] at hw
      simp only [Region.wanted, hg]
      have hget : ∀ p, tm.getD d .bot = p → p ≠ .bot → ∃ v, a.tmps[d]? = some v ∧ RV g H p v := fun p hp hne => by
        rw [List.getD_eq_getElem?_getD] at hp
        cases e : tm[d]? with
        | none => rw [e] at hp; exact absurd hp.symm hne
        | some q =>
          rw [e] at hp
          simp only [Option.getD_some] at hp
          subst hp
          obtain ⟨v, h1, h2⟩ := ht.get e
          exact ⟨v, by simpa using h1, h2⟩
      split at hw
      · rename_i x hx
        cases hw
        obtain ⟨v, h1, h2⟩ := hget _ hx (by simp)
        simp only [RV] at h2
        subst h2
        simp only [yielded, hd, Option.bind_some, h1]
        cases x <;> cases b' <;> rfl
      · rename_i hx
        cases hw
        obtain ⟨v, h1, h2⟩ := hget _ hx (by simp)
        simp only [RV] at h2
        subst h2
        simp only [yielded, hd, Option.bind_some, h1]
        rfl
      · cases hw
    · cases h

/-- One operation of a region. -/
theorem step_wp (hcall : CallOk P call) {g : Gh} {tm : List PV} {H : Hp} {a : Act} {w : World} (h : StOk g tm H a w) {i fl : Nat} {o : Oper} {c : CO} (ho : ops[i]? = some o) (hc : compO P ops fl o = some c) {tm' : List PV} {H' : Hp}
    (he : evO call c tm H = some (tm', H')) {K : Act → World → Prop} (hK : ∀ a' w' g', StOk g' tm' H' a' w' → Ext g H w g' H' w' → K a' w') : wpOp P ops Q i K a w := by
  obtain ⟨hd, hop⟩ := compO_dst hc
  unfold wpOp
  simp only [ho]
  unfold evO at he
  split at he
  · rename_i hw
    rw [wantP_ok h.tm hc hw, if_pos rfl]
    split at he
    · rename_i r H1 hev
      cases he
      rw [hop] at hev
      exact .inl (oper_wp hcall h hev fun v w' g' h1 h2 h3 => hK _ _ g' (by rw [hd]; exact h.put h3 h1 o.dst h2) h3)
    · cases he
  · rename_i hw
    rw [wantP_ok h.tm hc hw, if_neg (by simp)]
    cases he
    exact hK _ _ g (by rw [hd]; exact h.put (Ext.refl g H w) h.inv o.dst (by simp only [RV])) (Ext.refl g H w)
  · cases he

theorem evOs_wp (hcall : CallOk P call) {cfg : Nat → Nat} : ∀ (l : List Oper) (k : Nat) (cops : List CO), (∀ i o, l[i]? = some o → ops[k + i]? = some o) → compOs P ops cfg l = some cops → ∀ {g : Gh} {tm : List PV} {H : Hp} {a : Act} {w : World}, StOk g tm H a w →
    ∀ {tm' : List PV} {H' : Hp}, evOs call cops tm H = some (tm', H') → (∀ a' w' g', StOk g' tm' H' a' w' → Ext g H w g' H' w' → Q .normal a' w') → wpOps P ops Q (List.range' k l.length) a w
  | [], k, cops, _, hc, g, tm, H, a, w, h, tm', H', he, hQ => by
    simp only [compOs, Option.some.injEq] at hc
    subst hc
    simp only [evOs, Option.some.injEq, Prod.mk.injEq] at he
    obtain ⟨rfl, rfl⟩ := he
    exact hQ a w g h (Ext.refl g H w)
  | o :: r, k, cops, hk, hc, g, tm, H, a, w, h, tm', H', he, hQ => by
    simp only [compOs] at hc
    split at hc
    · rename_i c l' h1 h2
      cases hc
      simp only [evOs] at he
      split at he
      · rename_i tm1 H1 he1
        simp only [List.length_cons, List.range'_succ]
        rw [wpOps_cons]
        exact step_wp hcall h (hk 0 o rfl) h1 he1 fun a' w' g' hs hE => evOs_wp hcall r (k + 1) l' (fun i o' hi => by have := hk (i + 1) o' (by simpa using hi); rwa [show k + 1 + i = k + (i + 1) by omega]) h2 hs he (fun a'' w'' g'' hs' hE' => hQ a'' w'' g'' hs' (hE.trans hE'))
      · cases he
    · cases hc

/-- A region in the order of the text. -/
theorem reg_wp (hcall : CallOk P call) {cfg : Nat → Nat} {cops : List CO} {id : Nat} (hc : compOs P ops cfg ops.toList = some cops) {g : Gh} {tm : List PV} {H : Hp} {a : Act} {w : World} (h : StOk g tm H a w) {tm' : List PV} {H' : Hp}
    (he : evOs call cops tm H = some (tm', H')) (hQ : ∀ a' w' g', StOk g' tm' H' a' w' → Ext g H w g' H' w' → Q .normal a' w') : (Code.region id ops false).wp P Q a w := by
  refine wp_region ?_
  rw [List.range_eq_range']
  have := evOs_wp (Q := Q) hcall ops.toList 0 cops (fun i o hi => by rw [Nat.zero_add]; simpa using hi) hc h he hQ
  simpa using this

/-! ### What is looked at -/
def X.slots : X → List Nat
  | .t n => [n]
  | .c _ => []
def COp.xs : COp → List X
  | .prt _ _ _ x | .cut0 _ x | .boxc x | .mv x | .box x | .chk x | .snil _ x | .inil _ x | .un _ x | .cvt _ x | .cvs x | .frz x | .s2b _ x | .b2s x | .fad _ x | .ext x _ | .len _ x => [x]
  | .pick c a b => [c, a, b]
  | .alloc _ => []
  | .build _ ps | .lit _ _ _ _ ps | .litr _ _ _ ps => ps.map fun (_, _, x) => x
  | .load _ _ a => [a]
  | .store _ a v => [a, v]
  | .bin _ x y | .beq _ x y | .aeq _ _ x y | .iad _ x y | .idx x y | .app _ _ x y | .appr _ _ x y | .iaa _ _ x y | .min x y | .max x y | .dif x y => [x, y]
  | .cut _ x lo hi => x :: (lo.toList ++ hi.toList)
  | .call _ _ _ args => args
  | .callv x args | .callw _ x args => x :: args
  | .clo _ caps => caps
  | .no => []
def CO.slots (o : CO) : List Nat := (o.op.xs.flatMap X.slots) ++ (match o.g with | some (t, _) => [t] | none => [])

theorem X.ev_congr {tm tm' : List PV} {x : X} (h : ∀ t ∈ x.slots, tm.getD t .bot = tm'.getD t .bot) : x.ev tm = x.ev tm' := by
  cases x with
  | t n => exact h n (by simp [X.slots])
  | c v => rfl
theorem map_ev_congr {tm tm' : List PV} {l : List X} (h : ∀ x ∈ l, x.ev tm = x.ev tm') : l.map (X.ev tm) = l.map (X.ev tm') := List.map_congr_left h
theorem evalOp_congr {tm tm' : List PV} (H : Hp) {o : COp} (h : ∀ x ∈ o.xs, x.ev tm = x.ev tm') : evalOp call tm H o = evalOp call tm' H o := by
  have hp : ∀ ps : List (Nat × Nat × X), (∀ x ∈ ps.map (fun (_, _, x) => x), x.ev tm = x.ev tm') → (ps.map fun (o, s, x) => (o, s, x.ev tm)) = ps.map fun (o, s, x) => (o, s, x.ev tm') := fun ps hh =>
    List.map_congr_left fun p hm => by
      obtain ⟨o, s, x⟩ := p
      simp only [hh x (List.mem_map.2 ⟨(o, s, x), hm, rfl⟩)]
  cases o <;> simp only [COp.xs] at h <;> simp only [evalOp]
  case build zs ps => rw [hp ps h]
  case lit keep sz n zs ps => rw [hp ps h]
  case litr sz n zs ps => rw [hp ps h]
  case call refs keep f args => rw [map_ev_congr h]
  case callv x args => rw [map_ev_congr (fun x hx => h x (by simp [hx])), h x (by simp)]
  case callw keep x args => rw [map_ev_congr (fun x hx => h x (by simp [hx])), h x (by simp)]
  case clo f caps => rw [map_ev_congr h]
  case cut sz x lo hi =>
    have hlo : lo.map (X.ev tm) = lo.map (X.ev tm') := by cases lo with | none => rfl | some y => simp only [Option.map_some, h y (by simp)]
    have hhi : hi.map (X.ev tm) = hi.map (X.ev tm') := by cases hi with | none => rfl | some y => simp only [Option.map_some, h y (by simp)]
    rw [hlo, hhi, h x (by simp)]
  all_goals (first | rfl | (simp only [List.mem_cons, List.not_mem_nil, or_false, forall_eq_or_imp, forall_eq] at h; simp only [h]))
theorem wantP_congr {tm tm' : List PV} {gd : Option (Nat × Bool)} (h : ∀ t b, gd = some (t, b) → tm.getD t .bot = tm'.getD t .bot) : wantP tm gd = wantP tm' gd := by
  cases gd with
  | none => rfl
  | some x => obtain ⟨t, b⟩ := x; simp only [wantP, h t b rfl]
end
end Go.Proofs.YtnljpfjoboafoaaDoor.Ev
