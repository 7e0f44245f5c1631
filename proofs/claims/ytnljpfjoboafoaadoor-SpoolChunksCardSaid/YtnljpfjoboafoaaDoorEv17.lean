/- Regions that draw their order: whatever the order, what the evaluator tells of the order of the text. -/
import Derived.Test.YtnljpfjoboafoaaDoorEv16
namespace Go.Proofs.YtnljpfjoboafoaaDoor.Ev
set_option linter.all false
open Go Go.RowKit

/-- What an operation waits for, by bits. -/
def befs : List Oper → List Nat → List Nat
  | [], acc => acc
  | o :: r, acc => befs r (acc ++ [o.after.toList.foldl (fun s e => if Region.binds .any e then s ||| (2 ^ e.on ||| acc.getD e.on 0) else s) 0])

/-- All that is listed waits for nothing unlisted. -/
def ClosedL (ops : Array Oper) (L : Nat → Bool) : Prop := ∀ (j : Nat) o, ops[j]? = some o → L j = true → ∀ e ∈ o.after.toList, Region.binds .any e = true → L e.on = true

theorem fold_bits (f : Edge → Nat) (i : Nat) : ∀ (es : List Edge) (s : Nat), (es.foldl (fun s e => if Region.binds .any e then s ||| f e else s) s).testBit i = true → s.testBit i = true ∨ ∃ e ∈ es, Region.binds .any e = true ∧ (f e).testBit i = true
  | [], s, h => .inl h
  | e :: es, s, h => by
    simp only [List.foldl_cons] at h
    rcases fold_bits f i es _ h with h | ⟨e', h1, h2⟩
    · by_cases hb : Region.binds .any e = true
      · rw [if_pos hb, Nat.testBit_or, Bool.or_eq_true] at h
        rcases h with h | h
        · exact .inl h
        · exact .inr ⟨e, by simp, hb, h⟩
      · rw [if_neg hb] at h
        exact .inl h
    · exact .inr ⟨e', by simp [h1], h2⟩

theorem befs_ok {ops : Array Oper} {L : Nat → Bool} (hc : ClosedL ops L) : ∀ (l : List Oper) (acc : List Nat), (∀ i o, l[i]? = some o → ops[acc.length + i]? = some o) →
    (∀ j i, (acc.getD j 0).testBit i = true → L j = true → L i = true) → ∀ j i, ((befs l acc).getD j 0).testBit i = true → L j = true → L i = true
  | [], acc, _, h => h
  | o :: r, acc, hl, h => by
    refine befs_ok hc r _ (fun i o' hi => by have := hl (i + 1) o' (by simpa using hi); simpa [Nat.add_assoc, Nat.add_comm 1 i] using this) fun j i hb hj => ?_
    rw [List.getD_eq_getElem?_getD] at hb
    rcases Nat.lt_trichotomy j acc.length with hlt | heq | hgt
    · rw [List.getElem?_append_left hlt, ← List.getD_eq_getElem?_getD] at hb
      exact h j i hb hj
    · subst heq
      rw [List.getElem?_append_right (Nat.le_refl _)] at hb
      simp only [Nat.sub_self, List.getElem?_cons_zero, Option.getD_some] at hb
      rcases fold_bits (fun e => 2 ^ e.on ||| acc.getD e.on 0) i _ _ hb with hb | ⟨e, he, hbi, hb⟩
      · simp at hb
      · have hon := hc acc.length o (by simpa using hl 0 o rfl) hj e he hbi
        rw [Nat.testBit_or, Bool.or_eq_true] at hb
        rcases hb with hb | hb
        · rw [Nat.testBit_two_pow] at hb
          have : e.on = i := by simpa using hb
          rwa [← this]
        · exact h e.on i hb hon
    · rw [List.getElem?_eq_none (by simp; omega)] at hb
      simp at hb

def orderedB (B : List Nat) (i j : Nat) : Bool := (B.getD j 0).testBit i
/-- Two operations of which neither waits for the other don't meet. -/
def apartB (x y : CO) : Bool :=
  (match x.dst with | some d => !(y.slots.contains d) && (y.dst != some d) | none => true) && (match y.dst with | some d => !(x.slots.contains d) | none => true) &&
  !(x.op.wr && y.op.wr) && ((!x.op.st && !y.op.st) || x.op.calm || y.op.calm)
def drawOk (B : List Nat) (cops : List CO) : Bool :=
  cops.zipIdx.all fun (y, j) => cops.zipIdx.all fun (x, i) => !(i < j) || orderedB B i j || apartB x y

theorem apartB_spec {x y : CO} (h : apartB x y = true) : (∀ d, x.dst = some d → d ∉ y.slots) ∧ (∀ d, x.dst = some d → y.dst ≠ some d) ∧ (∀ d, y.dst = some d → d ∉ x.slots) ∧ ¬ (x.op.wr = true ∧ y.op.wr = true) ∧ (y.op.calm = false → x.op.st = false) ∧ (x.op.calm = false → y.op.st = false) := by
  simp only [apartB, Bool.and_eq_true, Bool.not_eq_true', Bool.and_eq_false_iff] at h
  obtain ⟨⟨⟨h1, h2⟩, h3⟩, h4⟩ := h
  simp only [Bool.or_eq_true, Bool.and_eq_true, Bool.not_eq_true'] at h4
  refine ⟨fun d hd => ?_, fun d hd => ?_, fun d hd => ?_, fun hc => ?_, fun hc => ?_, fun hc => ?_⟩
  · rw [hd] at h1; simp at h1; exact h1.1
  · rw [hd] at h1; simp at h1; exact h1.2
  · rw [hd] at h2; simp at h2; exact h2
  · rcases h3 with h3 | h3
    · rw [hc.1] at h3; cases h3
    · rw [hc.2] at h3; cases h3
  · rcases h4 with (h4 | h4) | h4
    · exact h4.1
    · exact wr_st (calm_wr h4)
    · rw [hc] at h4; cases h4
  · rcases h4 with (h4 | h4) | h4
    · exact h4.2
    · rw [hc] at h4; cases h4
    · exact wr_st (calm_wr h4)
theorem drawOk_spec {B : List Nat} {cops : List CO} (h : drawOk B cops = true) {i j : Nat} {x y : CO} (hx : cops[i]? = some x) (hy : cops[j]? = some y) (hlt : i < j) (ho : orderedB B i j = false) : apartB x y = true := by
  unfold drawOk at h
  have h1 := List.all_eq_true.1 h (y, j) (by rw [List.mem_iff_getElem?]; exact ⟨j, by simp [List.getElem?_zipIdx, hy]⟩)
  have h2 := List.all_eq_true.1 h1 (x, i) (by rw [List.mem_iff_getElem?]; exact ⟨i, by simp [List.getElem?_zipIdx, hx]⟩)
  simpa [hlt, ho] using h2

section
variable {call : Nat → List PV → Hp → Option (PV × Hp)}

/-- The states of the order of the text. -/
structure Run (call : Nat → List PV → Hp → Option (PV × Hp)) (cops : List CO) (T : Nat → List PV) (G : Nat → Hp) (val : Nat → PV) : Prop where
  step : ∀ (i : Nat) c, cops[i]? = some c → evO call c (T i) (G i) = some (T (i + 1), G (i + 1))
  put : ∀ (i : Nat) c, cops[i]? = some c → T (i + 1) = putP (T i) c.dst (val i)
theorem evO_put {c : CO} {tm tm' : List PV} {H H' : Hp} (h : evO call c tm H = some (tm', H')) : ∃ p, tm' = putP tm c.dst p := by
  unfold evO at h
  split at h
  · split at h
    · cases h; exact ⟨_, rfl⟩
    · cases h
  · cases h; exact ⟨_, rfl⟩
  · cases h
theorem run_of : ∀ (cops : List CO) (tm : List PV) (H : Hp) (tm' : List PV) (H' : Hp), evOs call cops tm H = some (tm', H') → ∃ T G val, Run call cops T G val ∧ T 0 = tm ∧ G 0 = H ∧ T cops.length = tm' ∧ G cops.length = H'
  | [], tm, H, tm', H', h => by
    simp only [evOs, Option.some.injEq, Prod.mk.injEq] at h
    obtain ⟨rfl, rfl⟩ := h
    exact ⟨fun _ => tm, fun _ => H, fun _ => .bot, ⟨fun i c hc => by simp at hc, fun i c hc => by simp at hc⟩, rfl, rfl, rfl, rfl⟩
  | c :: r, tm, H, tm', H', h => by
    simp only [evOs] at h
    split at h
    · rename_i tm1 H1 h1
      obtain ⟨T, G, val, hr, h2, h3, h4, h5⟩ := run_of r tm1 H1 tm' H' h
      obtain ⟨p, hp⟩ := evO_put h1
      refine ⟨fun i => match i with | 0 => tm | i + 1 => T i, fun i => match i with | 0 => H | i + 1 => G i, fun i => match i with | 0 => p | i + 1 => val i, ⟨fun i c' hc => ?_, fun i c' hc => ?_⟩, rfl, rfl, h4, h5⟩
      · cases i with
        | zero => simp at hc; subst hc; simp only; rw [h2, h3]; exact h1
        | succ i => exact hr.step i c' (by simpa using hc)
      · cases i with
        | zero => simp at hc; subst hc; simp only; rw [h2]; exact hp
        | succ i => exact hr.put i c' (by simpa using hc)
    · cases h
end
def dstAt (cops : List CO) (i : Nat) : Option Nat := (cops[i]?).bind (·.dst)
def wrAt (cops : List CO) (i : Nat) : Bool := match cops[i]? with | some c => c.op.wr | none => false
/-- The slots with what has come up of the first k. -/
def sL (cops : List CO) (tm : List PV) (val : Nat → PV) (L : Nat → Bool) : Nat → List PV
  | 0 => tm
  | k + 1 => if L k then putP (sL cops tm val L k) (dstAt cops k) (val k) else sL cops tm val L k
def hL (cops : List CO) (H : Hp) (G : Nat → Hp) (L : Nat → Bool) : Nat → Hp
  | 0 => H
  | k + 1 => if L k && wrAt cops k then G (k + 1) else hL cops H G L k

theorem putP_getD {tm : List PV} {d : Option Nat} {p : PV} {t : Nat} (h : d ≠ some t) : (putP tm d p).getD t .bot = tm.getD t .bot := by
  cases d with
  | none => rfl
  | some d =>
    have : d ≠ t := fun e => h (by rw [e])
    simp only [putP, List.getD_eq_getElem?_getD, List.getElem?_set_ne this]
theorem putP_self {tm tm' : List PV} {t : Nat} {p : PV} (hl : tm.length = tm'.length) : (putP tm (some t) p).getD t .bot = (putP tm' (some t) p).getD t .bot := by
  simp only [putP, List.getD_eq_getElem?_getD, List.getElem?_set_self', hl]
  rcases Nat.lt_or_ge t tm'.length with h | h
  · rw [List.getElem?_eq_getElem h, List.getElem?_eq_getElem (hl ▸ h)]; rfl
  · rw [List.getElem?_eq_none h, List.getElem?_eq_none (hl ▸ h)]
theorem putP_length (tm : List PV) (d : Option Nat) (p : PV) : (putP tm d p).length = tm.length := by cases d <;> simp [putP]
theorem putP_comm {tm : List PV} {d e : Option Nat} {p q : PV} (h : ∀ x, d = some x → e ≠ some x) : putP (putP tm d p) e q = putP (putP tm e q) d p := by
  cases d with
  | none => rfl
  | some d => cases e with
    | none => rfl
    | some e =>
      have : d ≠ e := fun heq => h d rfl (by rw [heq])
      simp only [putP, List.set_comm _ _ this]
theorem sL_length (cops : List CO) (tm : List PV) (val : Nat → PV) (L : Nat → Bool) : ∀ k, (sL cops tm val L k).length = tm.length
  | 0 => rfl
  | k + 1 => by
    simp only [sL]
    split
    · rw [putP_length, sL_length cops tm val L k]
    · exact sL_length cops tm val L k
end Go.Proofs.YtnljpfjoboafoaaDoor.Ev
