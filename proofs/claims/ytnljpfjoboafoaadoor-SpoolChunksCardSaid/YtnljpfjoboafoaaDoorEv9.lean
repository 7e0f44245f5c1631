/- That the evaluator tells what the operations do: cuts, conversions of bytes, append. -/
import Derived.Test.YtnljpfjoboafoaaDoorEv8
namespace Go.Proofs.YtnljpfjoboafoaaDoor.Ev
set_option linter.all false
open Go Go.RowKit
section
variable {P : Program} {g : Gh} {H : Hp} {w : World} {tm : List PV} {a : Act} {call : Nat → List PV → Hp → Option (PV × Hp)}

theorem sl_RC {t : Tk} {sz n : Nat} {cs : List PV} {u : Value} (hu : RV g H (.sl t sz n cs) u) : ∃ A cap, u = .slice A n cap ∧ n ≤ cap ∧ cs.length = n * sz ∧ (t = .nil → A = none ∧ n = 0 ∧ cap = 0) ∧ (0 < n → ∃ b off vs, A = some ⟨b, off, none⟩ ∧ g.σ.holds b off vs ∧ RCs g.σ cs vs) := by
  cases t with
  | nil => simp only [RV, RC] at hu; obtain ⟨_, A, cap, h1, h2, h3, h4, h5⟩ := hu; exact ⟨A, cap, h1, h2, h4, fun _ => h3 trivial, h5⟩
  | no => simp only [RV, RC] at hu; obtain ⟨_, A, cap, h1, h2, h3, h4, h5⟩ := hu; exact ⟨A, cap, h1, h2, h4, fun h => (by cases h), h5⟩
  | tok k => simp only [RV, RC] at hu; obtain ⟨_, ⟨_, A, cap, h1, h2, h3, h4, h5⟩, _⟩ := hu; exact ⟨A, cap, h1, h2, h4, fun h => (by cases h), h5⟩

theorem run_sb (k : IntKind) {i : Int} {y : Nat} (h0 : 0 ≤ i) (h1 : i ≤ y) (c : BoundsCode) : (Instr.sliceBound (.int k i) y c).run P w = .ok i.toNat w := by
  simp only [Instr.sliceBound, asIntOf, Sem.run_bind, Sem.run_pure, Result.andThen_ok]
  rw [if_pos ⟨h0, h1⟩]
  rfl
theorem low_int {p : PV} {b : Nat} (h : lowP (some p) = some b) : ∃ k i, p = .int k i ∧ 0 ≤ i ∧ b = i.toNat := by
  cases p <;> simp only [lowP, reduceCtorEq] at h
  split at h
  · rename_i h0; cases h; exact ⟨_, _, rfl, h0, rfl⟩
  · cases h
theorem high_int {p : PV} {n b : Nat} (h : highP n (some p) = some b) : ∃ k i, p = .int k i ∧ 0 ≤ i ∧ i ≤ n ∧ b = i.toNat := by
  cases p <;> simp only [highP, reduceCtorEq] at h
  split at h
  · rename_i h0; cases h; exact ⟨_, _, rfl, h0.1, h0.2, rfl⟩
  · cases h
theorem run_bounds (hx : ∀ x, RV g H ((cx x).ev tm) (a.eval x)) {lo hi : Option Operand} {n cap h b : Nat} (hc : n ≤ cap) (h1 : highP n ((hi.map cx).map (X.ev tm)) = some h) (h2 : lowP ((lo.map cx).map (X.ev tm)) = some b) (h3 : b ≤ h) (sl : Bool) :
    (Instr.sliceBounds sl n cap (lo.map a.eval) (hi.map a.eval) none).run P w = .ok (b, h, cap) w ∧ h ≤ n := by
  have ev : ∀ {x : Operand} {k i}, (cx x).ev tm = .int k i → a.eval x = .int k i := fun {x k i} e => by
    have := hx x
    rw [e] at this
    simpa only [RV] using this
  cases hi with
  | none =>
    simp only [Option.map_none, highP, Option.some.injEq] at h1
    subst h1
    cases lo with
    | none =>
      simp only [Option.map_none, lowP, Option.some.injEq] at h2
      subst h2
      exact ⟨rfl, Nat.le_refl _⟩
    | some x =>
      obtain ⟨k, i, e, h0, rfl⟩ := low_int h2
      refine ⟨?_, Nat.le_refl _⟩
      simp only [Option.map_none, Option.map_some, Instr.sliceBounds, Sem.run_bind, Sem.run_pure, Result.andThen_ok, ev e, run_sb k h0 (show i ≤ (n : Int) by omega)]
  | some y =>
    obtain ⟨k, i, e, h0, h4, rfl⟩ := high_int h1
    refine ⟨?_, by omega⟩
    cases lo with
    | none =>
      simp only [Option.map_none, lowP, Option.some.injEq] at h2
      subst h2
      simp only [Option.map_none, Option.map_some, Instr.sliceBounds, Sem.run_bind, Sem.run_pure, Result.andThen_ok, ev e, run_sb k h0 (show i ≤ (cap : Int) by omega)]
    | some x =>
      obtain ⟨k', i', e', h0', rfl⟩ := low_int h2
      simp only [Option.map_some, Instr.sliceBounds, Sem.run_bind, Sem.run_pure, Result.andThen_ok, ev e, ev e', run_sb k h0 (show i ≤ (cap : Int) by omega), run_sb k' h0' (show i' ≤ ((i.toNat : Nat) : Int) by omega)]

theorem snd_cut_str (hI : Inv g H w) (hx : ∀ x, RV g H ((cx x).ev tm) (a.eval x)) {T : TypeId} (ht : P.underlying T = some .string) {l : List UInt8} {lo hi : Option Operand} {h b : Nat}
    (h1 : highP l.length ((hi.map cx).map (X.ev tm)) = some h) (h2 : lowP ((lo.map cx).map (X.ev tm)) = some b) (h3 : b ≤ h) :
    Runs P g H w (do pure (Next.value (← Instr.sliceAt T (.string ⟨l.toArray⟩) (lo.map a.eval) (hi.map a.eval) none))) (.str ((l.take h).drop b)) H := by
  have hsz : (⟨l.toArray⟩ : ByteArray).size = l.length := by simp [ByteArray.size]
  obtain ⟨hb, hle⟩ := run_bounds (P := P) (w := w) hx (Nat.le_refl l.length) h1 h2 h3 false
  refine Runs.same hI (run_v_ok (v := .string ((⟨l.toArray⟩ : ByteArray).extract b h)) ?_) ?_
  · simp only [Instr.sliceAt, Instr.slice, Sem.run_bind, run_underlying ht, Result.andThen_ok, Option.isSome_none, Bool.false_eq_true, if_false, hsz, Sem.run_pure, hb]
  · simp only [RV, Value.string.injEq]
    rw [ByteArray.ext_iff]
    apply Array.ext'
    simp [List.take_drop, show b + (h - b) = h by omega]
theorem snd_cut_sl (hI : Inv g H w) (hx : ∀ x, RV g H ((cx x).ev tm) (a.eval x)) {T e : TypeId} {i : TypeInfo} (ht : P.underlying T = some (.slice e)) (hie : P.info? e = some i) {t : Tk} {sz n : Nat} {cs : List PV} {u : Value} (hu : RV g H (.sl t sz n cs) u) {lo hi : Option Operand} {h b : Nat}
    (h1 : highP n ((hi.map cx).map (X.ev tm)) = some h) (h2 : lowP ((lo.map cx).map (X.ev tm)) = some b) (h3 : b ≤ h) (h4 : n = 0 ∨ sz = i.size) :
    Runs P g H w (do pure (Next.value (← Instr.sliceAt T u (lo.map a.eval) (hi.map a.eval) none))) (.sl .no sz (h - b) ((cs.take (h * sz)).drop (b * sz))) H := by
  obtain ⟨A, cap, rfl, hc, hl, _, hxx⟩ := sl_RC hu
  obtain ⟨hb, hle⟩ := run_bounds (P := P) (w := w) hx hc h1 h2 h3 true
  have hsz : (sizeOf e).run P w = .ok i.size w := by simp [sizeOf, typeInfo, hie]
  refine Runs.same hI (run_v_ok (v := .slice (if cap = b then A else A.map (·.add (b * i.size))) (h - b) (cap - b)) ?_) ?_
  · simp only [Instr.sliceAt, Instr.slice, Sem.run_bind, run_underlying ht, Result.andThen_ok, hb, hsz, Sem.run_pure]
  · simp only [RV, RC]
    refine ⟨fun k h => (by cases h), _, _, rfl, by omega, fun h => (by cases h), ?_, fun hp => ?_⟩
    · simp only [List.length_drop, List.length_take]
      have : h * sz ≤ n * sz := Nat.mul_le_mul_right _ hle
      rw [Nat.min_eq_left (by omega), Nat.sub_mul]
    · have hn : 0 < n := by omega
      obtain ⟨b0, off, vs, rfl, h5, h6⟩ := hxx hn
      have hne : ¬ cap = b := by omega
      have hszz : i.size = sz := by rcases h4 with h | h <;> omega
      refine ⟨b0, off + b * sz, (vs.take (h * sz)).drop (b * sz), ?_, (h5.take _).drop _, (h6.take _).drop _⟩
      rw [if_neg hne, hszz]
      simp only [Option.map_some, Addr.add_lit]
theorem snd_cut_row (hI : Inv g H w) (hx : ∀ x, RV g H ((cx x).ev tm) (a.eval x)) {T e : TypeId} {i : TypeInfo} (ht : P.underlying T = some (.slice e)) (hie : P.info? e = some i) {id off sz n h b : Nat} {lo hi : Option Operand} {u : Value} (hu : RV g H (.row id off sz n) u)
    (h1 : highP n ((hi.map cx).map (X.ev tm)) = some h) (h2 : lowP ((lo.map cx).map (X.ev tm)) = some b) (h3 : b ≤ h) (h4 : sz = i.size) :
    Runs P g H w (do pure (Next.value (← Instr.sliceAt T u (lo.map a.eval) (hi.map a.eval) none))) (if b < h then .row id (off + b * sz) sz (h - b) else .sl .no sz 0 []) H := by
  simp only [RV] at hu
  obtain ⟨hid, b0, e0, top, cap, hm, rfl, hc, hcap⟩ := hu
  obtain ⟨hb, hle⟩ := run_bounds (P := P) (w := w) hx hc h1 h2 h3 true
  have hsz : (sizeOf e).run P w = .ok i.size w := by simp [sizeOf, typeInfo, hie]
  have hrun : (Instr.sliceAt T (.slice (some ⟨b0, e0 + off, none⟩) n cap) (lo.map a.eval) (hi.map a.eval) none).run P w = .ok (.slice (if cap = b then some ⟨b0, e0 + off, none⟩ else (some ⟨b0, e0 + off, none⟩ : Option Addr).map (·.add (b * i.size))) (h - b) (cap - b)) w := by
    simp only [Instr.sliceAt, Instr.slice, Sem.run_bind, run_underlying ht, Result.andThen_ok, hb, hsz, Sem.run_pure]
  by_cases hbh : b < h
  · rw [if_pos hbh]
    refine Runs.same hI (run_v_ok hrun) ?_
    simp only [RV]
    have hne : ¬ cap = b := by omega
    refine ⟨hid, b0, e0, top, cap - b, hm, ?_, by omega, ?_, hcap.2.imp (fun h => h) (fun h => by omega)⟩
    · rw [if_neg hne, ← h4]
      simp only [Option.map_some, Addr.add_lit, Nat.add_assoc]
    · have hbc : b ≤ cap := by omega
      have : (cap - b) * sz + b * sz = cap * sz := by rw [← Nat.add_mul, Nat.sub_add_cancel hbc]
      omega
  · rw [if_neg hbh]
    refine Runs.same hI (run_v_ok hrun) ?_
    simp only [RV, RC]
    have h0 : h - b = 0 := by omega
    rw [h0]
    exact ⟨fun k h => (by cases h), _, _, rfl, Nat.zero_le _, fun h => (by cases h), by simp, fun hp => absurd hp (Nat.lt_irrefl 0)⟩
theorem snd_clo (hI : Inv g H w) (hx : ∀ x, RV g H ((cx x).ev tm) (a.eval x)) {f : Nat} {first caps : Array Operand} (hf : first.isEmpty = true) :
    Runs P g H w (do pure (Next.value (← Instr.makeFunc (.func f) (first.map a.eval) (caps.map a.eval)))) (.fn f ((caps.toList.map cx).map (X.ev tm))) H := by
  have h0 : first = #[] := by simpa using hf
  subst h0
  refine Runs.same hI (run_v_ok (v := .func (.func f) #[] (caps.map a.eval)) (by simp [Instr.makeFunc])) ?_
  simp only [RV]
  refine ⟨(caps.map a.eval).toList, rfl, ?_⟩
  simp only [Array.toList_map, List.map_map]
  induction caps.toList with
  | nil => simp only [List.map_nil, RVs]
  | cons c r ih => simp only [List.map_cons, RVs]; exact ⟨_, _, rfl, hx c, ih⟩
theorem bytes8_ok {σ : Sg} : ∀ {cs : List PV} {l : List UInt8} {vs : List Value}, bytes8 cs = some l → RCs σ cs vs → vs = l.map fun c => .int .u8 c.toNat
  | [], l, vs, h, hr => by simp only [bytes8, Option.some.injEq] at h; subst h; simp only [RCs] at hr; subst hr; rfl
  | p :: ps, l, vs, h, hr => by
    simp only [RCs] at hr
    obtain ⟨v, r, rfl, h1, h2⟩ := hr
    cases p <;> first | (simp only [bytes8, reduceCtorEq] at h; done) | skip
    rename_i k z
    cases k <;> first | (simp only [bytes8, reduceCtorEq] at h; done) | skip
    simp only [bytes8] at h
    split at h
    · rename_i l' hl
      split at h
      · rename_i hz
        cases h
        simp only [RC] at h1
        subst h1
        rw [bytes8_ok hl h2]
        simp only [List.map_cons, List.cons.injEq, Value.int.injEq, true_and, and_true]
        rw [UInt8.toNat_ofNat']
        omega
      · cases h
    · cases h
theorem bytes8_len : ∀ {cs : List PV} {l : List UInt8}, bytes8 cs = some l → l.length = cs.length
  | [], l, h => by simp only [bytes8, Option.some.injEq] at h; subst h; rfl
  | p :: ps, l, h => by
    cases p <;> first | (simp only [bytes8, reduceCtorEq] at h; done) | skip
    rename_i k z
    cases k <;> first | (simp only [bytes8, reduceCtorEq] at h; done) | skip
    simp only [bytes8] at h
    split at h
    · rename_i l' hl
      split at h
      · cases h; simp [bytes8_len hl]
      · cases h
    · cases h
theorem bytes8_b8 : ∀ l : List UInt8, bytes8 (l.map b8) = some l
  | [] => rfl
  | c :: l => by
    simp only [List.map_cons, b8, bytes8]
    rw [bytes8_b8 l]
    have := c.toNat_lt
    simp only
    rw [if_pos (by omega)]
    simp
end
end Go.Proofs.YtnljpfjoboafoaaDoor.Ev
