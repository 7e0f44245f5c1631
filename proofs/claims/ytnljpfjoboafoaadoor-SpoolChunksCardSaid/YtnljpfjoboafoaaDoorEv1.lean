/- An evaluator of pure values over the model: values, what they stand for, what a step keeps. -/
import Derived.Orders
import Derived.Below
import Derived.Laws.IdiomCopy
namespace Go.Proofs.YtnljpfjoboafoaaDoor.Ev
set_option linter.all false
open Go Go.RowKit

/-- The right to append to a slice: none, a nil slice, an entry of the abstract heap. -/
inductive Tk where
  | no | nil | tok (k : Nat)
  deriving DecidableEq, Repr, Inhabited

/-- Pure values: a slice has its content (cells in a row), a pointer the number of an object. -/
inductive PV where
  | bot | und
  | bool (b : Bool)
  | int (k : IntKind) (n : Int)
  | str (l : List UInt8)
  | sl (t : Tk) (sz n : Nat) (cs : List PV)
  | row (id off sz n : Nat)
  | ptr (id off : Nat)
  | nilp
  | ep (cs : List PV) (off : Nat)
  | fn (f : Nat) (caps : List PV)
  | agg (cs : List PV)
  | tup (vs : List PV)
  | ifc (nil : Bool)
  | ne0
  deriving Inhabited

/-- Entries of the abstract heap. -/
inductive Ob where
  | dead | tok | cells (cs : List PV)
  deriving Inhabited

abbrev Hp := List Ob
abbrev Sg := Nat → Nat → Option Value

def Sg.holds (σ : Sg) (b off : Nat) (vs : List Value) : Prop := ∀ (i : Nat) v, vs[i]? = some v → σ b (off + i) = some v

structure Gh where
  σ : Sg
  μ : Nat → Option (Nat × Nat × Nat)

mutual
/-- What lies in memory that nobody writes any more. -/
def RC (σ : Sg) : PV → Value → Prop
  | .bot, _ => True
  | .und, v => v = undef
  | .bool b, v => v = .bool b
  | .int k n, v => v = .int k n
  | .str l, v => v = .string ⟨l.toArray⟩
  | .sl t sz n cs, v => (∀ k, t ≠ .tok k) ∧ ∃ a cap, v = .slice a n cap ∧ n ≤ cap ∧ (t = .nil → a = none ∧ n = 0 ∧ cap = 0) ∧ cs.length = n * sz ∧
      (0 < n → ∃ b off vs, a = some ⟨b, off, none⟩ ∧ σ.holds b off vs ∧ RCs σ cs vs)
  | .row _ _ _ _, _ => False
  | .ptr _ _, _ => False
  | .nilp, v => v = .pointer none
  | .ep cs off, v => ∃ b o vs, v = .pointer (some ⟨b, o + off, none⟩) ∧ σ.holds b o vs ∧ RCs σ cs vs
  | .fn f caps, v => caps = [] ∧ v = .func (.func f) #[] #[]
  | .agg cs, v => ∃ vs, v = .agg ⟨vs⟩ ∧ RCs σ cs vs
  | .tup cs, v => ∃ vs, v = .tuple ⟨vs⟩ ∧ RCs σ cs vs
  | .ifc t, v => (t = true ∧ v = .nilIface) ∨ (t = false ∧ ∃ ty x, v = .iface ty x)
  | .ne0, v => ∃ ad cap, v = .slice (some ad) 0 cap
def RCs (σ : Sg) : List PV → List Value → Prop
  | [], vs => vs = []
  | p :: ps, vs => ∃ v r, vs = v :: r ∧ RC σ p v ∧ RCs σ ps r
end

/-- Does this program make bytes of texts (such blocks are marked behind their last cell)? -/
def marks : Bool := false
/-- Room that may be counted. -/
def capOk (c : Nat) : Prop := marks = true ∨ c ≤ 9223372036854775807
/-- The block behind entry k is the one that the slice v ends in. -/
def OwnAt (g : Gh) (k sz : Nat) (v : Value) : Prop :=
  match g.μ k with
  | none => ∃ a, v = .slice a 0 0
  | some (b, e, top) => 0 < sz ∧ ∃ off n cap, v = .slice (some ⟨b, off, none⟩) n cap ∧ off + n * sz = e ∧ off + cap * sz ≤ top ∧ capOk cap

mutual
def RV (g : Gh) (H : Hp) : PV → Value → Prop
  | .bot, _ => True
  | .und, v => v = undef
  | .bool b, v => v = .bool b
  | .int k n, v => v = .int k n
  | .str l, v => v = .string ⟨l.toArray⟩
  | .sl t sz n cs, v => match t with
    | .tok k => k < H.length ∧ RC g.σ (.sl .no sz n cs) v ∧ (H[k]? = some .tok → OwnAt g k sz v)
    | t => RC g.σ (.sl t sz n cs) v
  | .row id off sz n, v => id < H.length ∧ ∃ b e top cap, g.μ id = some (b, e, top) ∧ v = .slice (some ⟨b, e + off, none⟩) n cap ∧ n ≤ cap ∧ e + off + cap * sz ≤ top ∧ capOk cap
  | .ptr id off, v => id < H.length ∧ ∃ b e top, g.μ id = some (b, e, top) ∧ v = .pointer (some ⟨b, e + off, none⟩)
  | .nilp, v => v = .pointer none
  | .ep cs off, v => RC g.σ (.ep cs off) v
  | .fn f caps, v => ∃ vs, v = .func (.func f) #[] ⟨vs⟩ ∧ RVs g H caps vs
  | .agg cs, v => ∃ vs, v = .agg ⟨vs⟩ ∧ RVs g H cs vs
  | .tup cs, v => ∃ vs, v = .tuple ⟨vs⟩ ∧ RVs g H cs vs
  | .ifc t, v => (t = true ∧ v = .nilIface) ∨ (t = false ∧ ∃ ty x, v = .iface ty x)
  | .ne0, v => ∃ ad cap, v = .slice (some ad) 0 cap
def RVs (g : Gh) (H : Hp) : List PV → List Value → Prop
  | [], vs => vs = []
  | p :: ps, vs => ∃ v r, vs = v :: r ∧ RV g H p v ∧ RVs g H ps r
end

theorem RCs_iff {σ : Sg} : ∀ {ps : List PV} {vs : List Value}, RCs σ ps vs ↔ ps.length = vs.length ∧ ∀ (i : Nat) p v, ps[i]? = some p → vs[i]? = some v → RC σ p v
  | [], vs => by
    simp only [RCs]
    constructor
    · rintro rfl; exact ⟨rfl, fun i p v h => by simp at h⟩
    · rintro ⟨h, _⟩; exact List.eq_nil_of_length_eq_zero h.symm
  | p :: ps, vs => by
    simp only [RCs]
    constructor
    · rintro ⟨v, r, rfl, h1, h2⟩
      obtain ⟨hl, hi⟩ := RCs_iff.1 h2
      refine ⟨by simp [hl], fun i q u hq hu => ?_⟩
      cases i with
      | zero => simp at hq hu; subst hq; subst hu; exact h1
      | succ i => simp at hq hu; exact hi i q u hq hu
    · rintro ⟨hl, hi⟩
      cases vs with
      | nil => simp at hl
      | cons v r => exact ⟨v, r, rfl, hi 0 p v rfl rfl, RCs_iff.2 ⟨by simpa using hl, fun i q u hq hu => hi (i + 1) q u (by simpa using hq) (by simpa using hu)⟩⟩

theorem RVs_iff {g : Gh} {H : Hp} : ∀ {ps : List PV} {vs : List Value}, RVs g H ps vs ↔ ps.length = vs.length ∧ ∀ (i : Nat) p v, ps[i]? = some p → vs[i]? = some v → RV g H p v
  | [], vs => by
    simp only [RVs]
    constructor
    · rintro rfl; exact ⟨rfl, fun i p v h => by simp at h⟩
    · rintro ⟨h, _⟩; exact List.eq_nil_of_length_eq_zero h.symm
  | p :: ps, vs => by
    simp only [RVs]
    constructor
    · rintro ⟨v, r, rfl, h1, h2⟩
      obtain ⟨hl, hi⟩ := RVs_iff.1 h2
      refine ⟨by simp [hl], fun i q u hq hu => ?_⟩
      cases i with
      | zero => simp at hq hu; subst hq; subst hu; exact h1
      | succ i => simp at hq hu; exact hi i q u hq hu
    · rintro ⟨hl, hi⟩
      cases vs with
      | nil => simp at hl
      | cons v r => exact ⟨v, r, rfl, hi 0 p v rfl rfl, RVs_iff.2 ⟨by simpa using hl, fun i q u hq hu => hi (i + 1) q u (by simpa using hq) (by simpa using hu)⟩⟩

theorem RVs.length {g : Gh} {H : Hp} {ps : List PV} {vs : List Value} (h : RVs g H ps vs) : ps.length = vs.length := (RVs_iff.1 h).1
theorem RCs.length {σ : Sg} {ps : List PV} {vs : List Value} (h : RCs σ ps vs) : ps.length = vs.length := (RCs_iff.1 h).1
theorem RVs.get {g : Gh} {H : Hp} {ps : List PV} {vs : List Value} (h : RVs g H ps vs) {i : Nat} {p : PV} (hp : ps[i]? = some p) : ∃ v, vs[i]? = some v ∧ RV g H p v := by
  obtain ⟨hl, hi⟩ := RVs_iff.1 h
  have : i < vs.length := hl ▸ (List.getElem?_eq_some_iff.1 hp).1
  exact ⟨vs[i], List.getElem?_eq_getElem this, hi i p _ hp (List.getElem?_eq_getElem this)⟩
theorem RCs.get {σ : Sg} {ps : List PV} {vs : List Value} (h : RCs σ ps vs) {i : Nat} {p : PV} (hp : ps[i]? = some p) : ∃ v, vs[i]? = some v ∧ RC σ p v := by
  obtain ⟨hl, hi⟩ := RCs_iff.1 h
  have : i < vs.length := hl ▸ (List.getElem?_eq_some_iff.1 hp).1
  exact ⟨vs[i], List.getElem?_eq_getElem this, hi i p _ hp (List.getElem?_eq_getElem this)⟩
theorem RVs.set {g : Gh} {H : Hp} {ps : List PV} {vs : List Value} (h : RVs g H ps vs) (d : Nat) {p : PV} {v : Value} (hp : RV g H p v) : RVs g H (ps.set d p) (vs.set d v) := by
  obtain ⟨hl, hi⟩ := RVs_iff.1 h
  refine RVs_iff.2 ⟨by simp [hl], fun i q u hq hu => ?_⟩
  by_cases e : d = i
  · subst e
    have h1 : d < ps.length := by have := (List.getElem?_eq_some_iff.1 hq).1; simpa using this
    have h2 : d < vs.length := by have := (List.getElem?_eq_some_iff.1 hu).1; simpa using this
    rw [List.getElem?_set_self h1] at hq
    rw [List.getElem?_set_self h2] at hu
    cases hq; cases hu; exact hp
  · rw [List.getElem?_set_ne e] at hq hu
    exact hi i q u hq hu
theorem RVs.append {g : Gh} {H : Hp} {ps qs : List PV} {vs us : List Value} (h : RVs g H ps vs) (h' : RVs g H qs us) : RVs g H (ps ++ qs) (vs ++ us) := by
  induction ps generalizing vs with
  | nil => simp only [RVs] at h; subst h; exact h'
  | cons p ps ih => simp only [RVs] at h; obtain ⟨v, r, rfl, h1, h2⟩ := h; exact ⟨v, r ++ us, rfl, h1, ih h2⟩
theorem RCs.append {σ : Sg} {ps qs : List PV} {vs us : List Value} (h : RCs σ ps vs) (h' : RCs σ qs us) : RCs σ (ps ++ qs) (vs ++ us) := by
  induction ps generalizing vs with
  | nil => simp only [RCs] at h; subst h; exact h'
  | cons p ps ih => simp only [RCs] at h; obtain ⟨v, r, rfl, h1, h2⟩ := h; exact ⟨v, r ++ us, rfl, h1, ih h2⟩
theorem RVs.take {g : Gh} {H : Hp} {ps : List PV} {vs : List Value} (h : RVs g H ps vs) (n : Nat) : RVs g H (ps.take n) (vs.take n) := by
  obtain ⟨hl, hi⟩ := RVs_iff.1 h
  refine RVs_iff.2 ⟨by simp [hl], fun i q u hq hu => ?_⟩
  rw [List.getElem?_take] at hq hu
  split at hq
  · rename_i hlt; rw [if_pos hlt] at hu; exact hi i q u hq hu
  · cases hq
theorem RVs.drop {g : Gh} {H : Hp} {ps : List PV} {vs : List Value} (h : RVs g H ps vs) (n : Nat) : RVs g H (ps.drop n) (vs.drop n) := by
  obtain ⟨hl, hi⟩ := RVs_iff.1 h
  refine RVs_iff.2 ⟨by simp [hl], fun i q u hq hu => ?_⟩
  rw [List.getElem?_drop] at hq hu
  exact hi _ q u hq hu
theorem RCs.take {σ : Sg} {ps : List PV} {vs : List Value} (h : RCs σ ps vs) (n : Nat) : RCs σ (ps.take n) (vs.take n) := by
  obtain ⟨hl, hi⟩ := RCs_iff.1 h
  refine RCs_iff.2 ⟨by simp [hl], fun i q u hq hu => ?_⟩
  rw [List.getElem?_take] at hq hu
  split at hq
  · rename_i hlt; rw [if_pos hlt] at hu; exact hi i q u hq hu
  · cases hq
theorem RCs.drop {σ : Sg} {ps : List PV} {vs : List Value} (h : RCs σ ps vs) (n : Nat) : RCs σ (ps.drop n) (vs.drop n) := by
  obtain ⟨hl, hi⟩ := RCs_iff.1 h
  refine RCs_iff.2 ⟨by simp [hl], fun i q u hq hu => ?_⟩
  rw [List.getElem?_drop] at hq hu
  exact hi _ q u hq hu
theorem Sg.holds.take {σ : Sg} {b off : Nat} {vs : List Value} (h : σ.holds b off vs) (n : Nat) : σ.holds b off (vs.take n) := fun i v hv => by
  rw [List.getElem?_take] at hv
  split at hv
  · exact h i v hv
  · cases hv
theorem Sg.holds.drop {σ : Sg} {b off : Nat} {vs : List Value} (h : σ.holds b off vs) (n : Nat) : σ.holds b (off + n) (vs.drop n) := fun i v hv => by
  rw [List.getElem?_drop] at hv
  have := h _ v hv
  rwa [Nat.add_assoc]
theorem Sg.holds.append {σ : Sg} {b off : Nat} {vs us : List Value} (h : σ.holds b off vs) (h' : σ.holds b (off + vs.length) us) : σ.holds b off (vs ++ us) := fun i v hv => by
  rcases Nat.lt_or_ge i vs.length with hl | hl
  · rw [List.getElem?_append_left hl] at hv; exact h i v hv
  · rw [List.getElem?_append_right hl] at hv
    have := h' _ v hv
    rwa [show off + vs.length + (i - vs.length) = off + i by omega] at this

/-- The world's persistent part may grow. -/
def Sg.le (σ τ : Sg) : Prop := ∀ b o v, σ b o = some v → τ b o = some v
theorem Sg.holds.mono {σ τ : Sg} (hle : σ.le τ) {b off : Nat} {vs : List Value} (h : σ.holds b off vs) : τ.holds b off vs := fun i v hv => hle _ _ _ (h i v hv)

mutual
theorem RC.mono {σ τ : Sg} (hle : σ.le τ) : ∀ {p : PV} {v : Value}, RC σ p v → RC τ p v
  | .bot, _, h => by simpa only [RC] using h
  | .und, _, h => by simpa only [RC] using h
  | .bool _, _, h => by simpa only [RC] using h
  | .int _ _, _, h => by simpa only [RC] using h
  | .str _, _, h => by simpa only [RC] using h
  | .sl t sz n cs, v, h => by
    simp only [RC] at h ⊢
    obtain ⟨h0, a, cap, hv, hc, hn, hl, hx⟩ := h
    refine ⟨h0, a, cap, hv, hc, hn, hl, fun hp => ?_⟩
    obtain ⟨b, off, vs, ha, hh, hr⟩ := hx hp
    exact ⟨b, off, vs, ha, hh.mono hle, RCs.mono hle hr⟩
  | .row _ _ _ _, _, h => by simpa only [RC] using h
  | .ptr _ _, _, h => by simpa only [RC] using h
  | .nilp, _, h => by simpa only [RC] using h
  | .ifc _, _, h => by simpa only [RC] using h
  | .ne0, _, h => by simpa only [RC] using h
  | .ep cs off, v, h => by
    simp only [RC] at h ⊢
    obtain ⟨b, o, vs, hv, hh, hr⟩ := h
    exact ⟨b, o, vs, hv, hh.mono hle, RCs.mono hle hr⟩
  | .fn _ _, _, h => by simpa only [RC] using h
  | .agg cs, v, h => by
    simp only [RC] at h ⊢
    obtain ⟨vs, hv, hr⟩ := h
    exact ⟨vs, hv, RCs.mono hle hr⟩
  | .tup cs, v, h => by
    simp only [RC] at h ⊢
    obtain ⟨vs, hv, hr⟩ := h
    exact ⟨vs, hv, RCs.mono hle hr⟩
theorem RCs.mono {σ τ : Sg} (hle : σ.le τ) : ∀ {ps : List PV} {vs : List Value}, RCs σ ps vs → RCs τ ps vs
  | [], _, h => by simpa only [RCs] using h
  | p :: ps, vs, h => by
    simp only [RCs] at h ⊢
    obtain ⟨v, r, e, h1, h2⟩ := h
    exact ⟨v, r, e, RC.mono hle h1, RCs.mono hle h2⟩
end

/-- Numbers of entries turned. -/
def Tk.ren (ρ : Nat → Option Nat) : Tk → Tk
  | .no => .no
  | .nil => .nil
  | .tok k => match ρ k with | some k' => .tok k' | none => .no
mutual
def PV.ren (ρ : Nat → Option Nat) : PV → PV
  | .bot => .bot
  | .und => .und
  | .bool b => .bool b
  | .int k n => .int k n
  | .str l => .str l
  | .sl t sz n cs => .sl (t.ren ρ) sz n cs
  | .row id off sz n => match ρ id with | some id' => .row id' off sz n | none => .bot
  | .ptr id off => match ρ id with | some id' => .ptr id' off | none => .bot
  | .nilp => .nilp
  | .ifc t => .ifc t
  | .ne0 => .ne0
  | .ep cs off => .ep cs off
  | .fn f caps => .fn f (PV.rens ρ caps)
  | .agg cs => .agg (PV.rens ρ cs)
  | .tup vs => .tup (PV.rens ρ vs)
def PV.rens (ρ : Nat → Option Nat) : List PV → List PV
  | [] => []
  | p :: ps => p.ren ρ :: PV.rens ρ ps
end

structure RenOk (ρ : Nat → Option Nat) (g : Gh) (H : Hp) (g' : Gh) (H' : Hp) : Prop where
  σ : g.σ.le g'.σ
  lt : ∀ k k', ρ k = some k' → k < H.length → k' < H'.length
  μ : ∀ k k' x, ρ k = some k' → k < H.length → g.μ k = some x → g'.μ k' = some x
  tok : ∀ k k', ρ k = some k' → k < H.length → H'[k']? = some .tok → H[k]? = some .tok ∧ g'.μ k' = g.μ k

mutual
theorem RV.ren {ρ : Nat → Option Nat} {g g' : Gh} {H H' : Hp} (ok : RenOk ρ g H g' H') : ∀ {p : PV} {v : Value}, RV g H p v → RV g' H' (p.ren ρ) v
  | .bot, _, _ => by simp only [PV.ren, RV]
  | .und, _, h => by simpa only [PV.ren, RV] using h
  | .bool _, _, h => by simpa only [PV.ren, RV] using h
  | .int _ _, _, h => by simpa only [PV.ren, RV] using h
  | .str _, _, h => by simpa only [PV.ren, RV] using h
  | .sl .no sz n cs, v, h => by simp only [PV.ren, RV, Tk.ren] at h ⊢; exact h.mono ok.σ
  | .sl .nil sz n cs, v, h => by simp only [PV.ren, RV, Tk.ren] at h ⊢; exact h.mono ok.σ
  | .sl (.tok k) sz n cs, v, h => by
    simp only [PV.ren, RV, Tk.ren] at h ⊢
    obtain ⟨hk, hr, ho⟩ := h
    cases e : ρ k with
    | none => simp only; exact hr.mono ok.σ
    | some k' =>
      simp only
      refine ⟨ok.lt k k' e hk, hr.mono ok.σ, fun ht => ?_⟩
      obtain ⟨h1, h2⟩ := ok.tok k k' e hk ht
      have := ho h1
      unfold OwnAt at this ⊢
      rw [h2]
      exact this
  | .row id off sz n, v, h => by
    simp only [PV.ren, RV] at h ⊢
    obtain ⟨hk, b, e, top, cap, hm, hv, hc, hcap⟩ := h
    cases er : ρ id with
    | none => simp only [RV]
    | some k' => simp only [RV]; exact ⟨ok.lt id k' er hk, b, e, top, cap, ok.μ id k' _ er hk hm, hv, hc, hcap⟩
  | .ptr id off, v, h => by
    simp only [PV.ren, RV] at h ⊢
    obtain ⟨hk, b, e, top, hm, hv⟩ := h
    cases er : ρ id with
    | none => simp only [RV]
    | some k' => simp only [RV]; exact ⟨ok.lt id k' er hk, b, e, top, ok.μ id k' _ er hk hm, hv⟩
  | .nilp, _, h => by simpa only [PV.ren, RV] using h
  | .ifc _, _, h => by simpa only [PV.ren, RV] using h
  | .ne0, _, h => by simpa only [PV.ren, RV] using h
  | .ep cs off, v, h => by simp only [PV.ren, RV] at h ⊢; exact h.mono ok.σ
  | .fn f caps, v, h => by
    simp only [PV.ren, RV] at h ⊢
    obtain ⟨vs, hv, hr⟩ := h
    exact ⟨vs, hv, RVs.ren ok hr⟩
  | .agg cs, v, h => by
    simp only [PV.ren, RV] at h ⊢
    obtain ⟨vs, hv, hr⟩ := h
    exact ⟨vs, hv, RVs.ren ok hr⟩
  | .tup cs, v, h => by
    simp only [PV.ren, RV] at h ⊢
    obtain ⟨vs, hv, hr⟩ := h
    exact ⟨vs, hv, RVs.ren ok hr⟩
theorem RVs.ren {ρ : Nat → Option Nat} {g g' : Gh} {H H' : Hp} (ok : RenOk ρ g H g' H') : ∀ {ps : List PV} {vs : List Value}, RVs g H ps vs → RVs g' H' (PV.rens ρ ps) vs
  | [], _, h => by simpa only [PV.rens, RVs] using h
  | p :: ps, vs, h => by
    simp only [PV.rens, RVs] at h ⊢
    obtain ⟨v, r, e, h1, h2⟩ := h
    exact ⟨v, r, e, RV.ren ok h1, RVs.ren ok h2⟩
end
theorem PV.rens_eq (ρ : Nat → Option Nat) : ∀ ps : List PV, PV.rens ρ ps = ps.map (PV.ren ρ)
  | [] => rfl
  | p :: ps => by simp only [PV.rens, List.map_cons, PV.rens_eq ρ ps]
mutual
theorem PV.ren_some : ∀ p : PV, p.ren some = p
  | .bot | .und | .bool _ | .int _ _ | .str _ | .nilp | .ifc _ | .ne0 | .ep _ _ | .row _ _ _ _ | .ptr _ _ => rfl
  | .sl .no _ _ _ | .sl .nil _ _ _ | .sl (.tok _) _ _ _ => rfl
  | .fn f caps => by simp only [PV.ren, PV.rens_some caps]
  | .agg cs => by simp only [PV.ren, PV.rens_some cs]
  | .tup cs => by simp only [PV.ren, PV.rens_some cs]
theorem PV.rens_some : ∀ ps : List PV, PV.rens some ps = ps
  | [] => rfl
  | p :: ps => by simp only [PV.rens, PV.ren_some p, PV.rens_some ps]
end

def Alive (H : Hp) (id : Nat) : Prop := H[id]? = some .tok ∨ ∃ cs, H[id]? = some (.cells cs)
def Owned (g : Gh) (H : Hp) (b : Nat) : Prop := ∃ id e top, Alive H id ∧ g.μ id = some (b, e, top)
theorem Alive.lt {H : Hp} {id : Nat} (h : Alive H id) : id < H.length := by
  rcases h with h | ⟨cs, h⟩ <;> exact (List.getElem?_eq_some_iff.1 h).1

/-- The block of the library's variable that is read, if there is one. -/
def glob : Option Nat := (some 0)
def Zg (σ : Sg) : Prop := ∀ b, glob = some b → ∃ m, σ b 0 = some (.int .i64 m)
theorem Zg.mono {σ τ : Sg} (hle : σ.le τ) (h : Zg σ) : Zg τ := fun b hb => let ⟨m, hm⟩ := h b hb; ⟨m, hle _ _ _ hm⟩
/-- Blocks of the library's tables: whole they stay as they are. -/
def constB : List Nat := []
def blockOk (b : Nat) (cs : Array Value) : Prop := True
def Zk (g : Gh) (H : Hp) (w : World) : Prop := ∀ b, b ∈ constB → ∃ cs el fr, w.heap[b]? = some (.cells cs el fr) ∧ blockOk b cs ∧ ¬ Owned g H b
/-- No cell of a block is frozen. -/
def FrOk (fr : Nat × Nat) (n : Nat) : Prop := fr.1 = fr.2 ∨ (marks = true ∧ n ≤ fr.1)
theorem FrOk.free {fr : Nat × Nat} {n o : Nat} (h : FrOk fr n) (ho : o < n) : ¬ (fr.1 ≤ o ∧ o < fr.2) := by unfold FrOk at h; omega
structure Inv (g : Gh) (H : Hp) (w : World) : Prop where
  σw : ∀ b o v, g.σ b o = some v → w.cell? ⟨b, o, none⟩ = some v
  one : ∀ b o v, g.σ b o = some v → v.oneCell' = true
  z : Zg g.σ
  blk : ∀ id b e top, Alive H id → g.μ id = some (b, e, top) → ∃ carr el fr, w.heap[b]? = some (.cells carr el fr) ∧ e ≤ top ∧ top ≤ carr.size ∧
    FrOk fr carr.size ∧ (∀ o, e ≤ o → g.σ b o = none)
  obj : ∀ id cs b e top, H[id]? = some (.cells cs) → g.μ id = some (b, e, top) → e + cs.length ≤ top ∧ ∃ vs, RVs g H cs vs ∧ ∀ (i : Nat) v, vs[i]? = some v → w.cell? ⟨b, e + i, none⟩ = some v
  dist : ∀ id id' b e top e' top', Alive H id → Alive H id' → g.μ id = some (b, e, top) → g.μ id' = some (b, e', top') → id = id'
  c : Zk g H w

structure Ext (g : Gh) (H : Hp) (w : World) (g' : Gh) (H' : Hp) (w' : World) : Prop where
  σ : g.σ.le g'.σ
  μ : ∀ id, id < H.length → g'.μ id = g.μ id
  len : H.length ≤ H'.length
  tok : ∀ k, k < H.length → H'[k]? = some .tok → H[k]? = some .tok ∧ g'.μ k = g.μ k
  os : w'.os = w.os
  tape : w'.tape = w.tape
  output : w'.output = w.output
  size : w.heap.size ≤ w'.heap.size
  frame : ∀ k, k < w.heap.size → ¬ Owned g H k → w'.heap[k]? = w.heap[k]?
  σf : ∀ k o, k < w.heap.size → ¬ Owned g H k → g'.σ k o = g.σ k o
  own : ∀ k, Owned g' H' k → Owned g H k ∨ w.heap.size ≤ k

theorem Zk.ext {g g' : Gh} {H H' : Hp} {w w' : World} (h : Zk g H w) (hE : Ext g H w g' H' w') : Zk g' H' w' := fun b hb => by
  obtain ⟨cs, el, fr, h1, h2, h3⟩ := h b hb
  have hl : b < w.heap.size := (Array.getElem?_eq_some_iff.1 h1).1
  refine ⟨cs, el, fr, by rw [hE.frame b hl h3]; exact h1, h2, fun ho => ?_⟩
  rcases hE.own b ho with h | h
  · exact h3 h
  · omega
theorem Ext.refl (g : Gh) (H : Hp) (w : World) : Ext g H w g H w :=
  ⟨fun _ _ _ h => h, fun _ _ => rfl, Nat.le_refl _, fun _ _ h => ⟨h, rfl⟩, rfl, rfl, rfl, Nat.le_refl _, fun _ _ _ => rfl, fun _ _ _ _ => rfl, fun _ h => .inl h⟩
theorem Ext.trans {g g' g'' : Gh} {H H' H'' : Hp} {w w' w'' : World} (h : Ext g H w g' H' w') (k : Ext g' H' w' g'' H'' w'') : Ext g H w g'' H'' w'' where
  σ := fun b o v e => k.σ _ _ _ (h.σ _ _ _ e)
  μ := fun id hl => (k.μ id (Nat.lt_of_lt_of_le hl h.len)).trans (h.μ id hl)
  len := Nat.le_trans h.len k.len
  tok := fun i hi e => by
    obtain ⟨e1, e2⟩ := k.tok i (Nat.lt_of_lt_of_le hi h.len) e
    obtain ⟨e3, e4⟩ := h.tok i hi e1
    exact ⟨e3, e2.trans e4⟩
  os := k.os.trans h.os
  tape := k.tape.trans h.tape
  output := k.output.trans h.output
  size := Nat.le_trans h.size k.size
  frame := fun i hi ho => (k.frame i (Nat.lt_of_lt_of_le hi h.size) (fun hc => (h.own i hc).elim ho (fun hge => absurd hi (Nat.not_lt.2 hge)))).trans (h.frame i hi ho)
  σf := fun i o hi ho => (k.σf i o (Nat.lt_of_lt_of_le hi h.size) (fun hc => (h.own i hc).elim ho (fun hge => absurd hi (Nat.not_lt.2 hge)))).trans (h.σf i o hi ho)
  own := fun i hi => (k.own i hi).elim (h.own i) (fun hge => .inr (Nat.le_trans h.size hge))
theorem Ext.renOk {g g' : Gh} {H H' : Hp} {w w' : World} (h : Ext g H w g' H' w') : RenOk some g H g' H' :=
  ⟨h.σ, fun k k' e hk => by cases e; exact Nat.lt_of_lt_of_le hk h.len, fun k k' x e hk hx => by cases e; rw [h.μ k hk]; exact hx, fun k k' e hk => by cases e; exact h.tok k hk⟩
theorem RV.ext {g g' : Gh} {H H' : Hp} {w w' : World} (h : Ext g H w g' H' w') {p : PV} {v : Value} (hr : RV g H p v) : RV g' H' p v := by
  have := RV.ren h.renOk hr
  rwa [PV.ren_some] at this
theorem RVs.ext {g g' : Gh} {H H' : Hp} {w w' : World} (h : Ext g H w g' H' w') {p : List PV} {v : List Value} (hr : RVs g H p v) : RVs g' H' p v := by
  have := RVs.ren h.renOk hr
  rwa [PV.rens_some] at this
/-! Clean values stand for what they stand for whatever the heap. -/
mutual
theorem RV.of_RC {g : Gh} {H : Hp} : ∀ {p : PV} {v : Value}, RC g.σ p v → RV g H p v
  | .bot, _, h => by simpa only [RC, RV] using h
  | .und, _, h => by simpa only [RC, RV] using h
  | .bool _, _, h => by simpa only [RC, RV] using h
  | .int _ _, _, h => by simpa only [RC, RV] using h
  | .str _, _, h => by simpa only [RC, RV] using h
  | .sl .no _ _ _, _, h => by simpa only [RV] using h
  | .sl .nil _ _ _, _, h => by simpa only [RV] using h
  | .sl (.tok k) _ _ _, _, h => by simp only [RC] at h; exact absurd rfl (h.1 k)
  | .row _ _ _ _, _, h => by simp only [RC] at h
  | .ptr _ _, _, h => by simp only [RC] at h
  | .nilp, _, h => by simpa only [RC, RV] using h
  | .ifc _, _, h => by simpa only [RC, RV] using h
  | .ne0, _, h => by simpa only [RC, RV] using h
  | .ep _ _, _, h => by simpa only [RV] using h
  | .fn f caps, v, h => by
    simp only [RC] at h
    obtain ⟨rfl, rfl⟩ := h
    simp only [RV]
    exact ⟨[], rfl, by simp only [RVs]⟩
  | .agg cs, v, h => by
    simp only [RC] at h
    obtain ⟨vs, rfl, hr⟩ := h
    simp only [RV]
    exact ⟨vs, rfl, RVs.of_RCs hr⟩
  | .tup cs, v, h => by
    simp only [RC] at h
    obtain ⟨vs, rfl, hr⟩ := h
    simp only [RV]
    exact ⟨vs, rfl, RVs.of_RCs hr⟩
theorem RVs.of_RCs {g : Gh} {H : Hp} : ∀ {ps : List PV} {vs : List Value}, RCs g.σ ps vs → RVs g H ps vs
  | [], _, h => by simpa only [RCs, RVs] using h
  | p :: ps, vs, h => by
    simp only [RCs] at h
    obtain ⟨v, r, rfl, h1, h2⟩ := h
    simp only [RVs]
    exact ⟨v, r, rfl, RV.of_RC h1, RVs.of_RCs h2⟩
end

/-- A value as it may be kept in a row: no right to append, no number of an entry. -/
def PV.clean : PV → Option PV
  | .sl (.tok _) sz n cs => some (.sl .no sz n cs)
  | .row _ _ _ _ => none
  | .ptr _ _ => none
  | .fn f caps => if caps.isEmpty then some (.fn f []) else none
  | .agg _ => none
  | .tup _ => none
  | p => some p
theorem PV.clean_RC {g : Gh} {H : Hp} {p q : PV} {v : Value} (h : p.clean = some q) (hr : RV g H p v) : RC g.σ q v := by
  cases p with
  | bot | und | bool | int | str | nilp | ep | ifc | ne0 => simp only [PV.clean, Option.some.injEq] at h; subst h; simpa only [RC, RV] using hr
  | sl t sz n cs =>
    cases t with
    | no | nil => simp only [PV.clean, Option.some.injEq] at h; subst h; simpa only [RV] using hr
    | tok k => simp only [PV.clean, Option.some.injEq] at h; subst h; simp only [RV] at hr; exact hr.2.1
  | row | ptr | agg | tup => simp only [PV.clean] at h; cases h
  | fn f caps =>
    cases caps with
    | nil => simp only [PV.clean, List.isEmpty_nil, if_true, Option.some.injEq] at h; subst h; simp only [RV, RVs] at hr; obtain ⟨vs, rfl, rfl⟩ := hr; simp only [RC]; exact ⟨trivial, trivial⟩
    | cons c cs => simp [PV.clean] at h
/-- All clean. -/
def PV.cleans : List PV → Option (List PV)
  | [] => some []
  | p :: ps => match p.clean, PV.cleans ps with | some q, some qs => some (q :: qs) | _, _ => none
theorem PV.cleans_RCs {g : Gh} {H : Hp} : ∀ {ps qs : List PV} {vs : List Value}, PV.cleans ps = some qs → RVs g H ps vs → RCs g.σ qs vs
  | [], qs, vs, h, hr => by simp only [PV.cleans, Option.some.injEq] at h; subst h; simpa only [RVs, RCs] using hr
  | p :: ps, qs, vs, h, hr => by
    simp only [PV.cleans] at h
    split at h
    · rename_i q qs' h1 h2
      cases h
      simp only [RVs] at hr
      obtain ⟨v, r, rfl, h3, h4⟩ := hr
      simp only [RCs]
      exact ⟨v, r, rfl, PV.clean_RC h1 h3, PV.cleans_RCs h2 h4⟩
    · cases h
/-- The cells of a value. -/
def PV.cells : PV → List PV
  | .agg cs => cs
  | p => [p]
end Go.Proofs.YtnljpfjoboafoaaDoor.Ev
