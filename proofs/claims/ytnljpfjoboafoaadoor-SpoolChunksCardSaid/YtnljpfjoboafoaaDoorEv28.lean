/- Heaps that a loop's head and a function's end leave alone; bytes. -/
import Derived.Test.YtnljpfjoboafoaaDoorEv27
namespace Go.Proofs.YtnljpfjoboafoaaDoor.Ev
set_option linter.all false
open Go Go.RowKit

/-- Values that hold no entry of the heap. -/
def flat : PV → Bool
  | .bot | .und | .bool _ | .int _ _ | .str _ | .sl .no _ _ _ | .nilp | .ep _ _ => true
  | _ => false
theorem nilTs_flat : ∀ {env : List PV}, env.all flat = true → ∀ H, nilTs env H = (env, H)
  | [], _, H => rfl
  | p :: r, h, H => by
    simp only [List.all_cons, Bool.and_eq_true] at h
    have ih := nilTs_flat h.2
    cases p with
    | sl t sz n cs => cases t with
      | no => show (_ :: (nilTs r H).1, (nilTs r H).2) = _; rw [ih]
      | nil => exact absurd h.1 (by simp [flat])
      | tok k => exact absurd h.1 (by simp [flat])
    | _ => show (_ :: (nilTs r H).1, (nilTs r H).2) = _; rw [ih]
theorem toks_flat : ∀ {env : List PV}, env.all flat = true → PV.toksL env = []
  | [], _ => rfl
  | p :: r, h => by
    simp only [List.all_cons, Bool.and_eq_true] at h
    have ih := toks_flat h.2
    cases p with
    | sl t sz n cs => cases t with
      | no => simp only [PV.toksL, PV.toks, List.nil_append, ih]
      | nil => exact absurd h.1 (by simp [flat])
      | tok k => exact absurd h.1 (by simp [flat])
    | fn f cs => exact absurd h.1 (by simp [flat])
    | agg cs => exact absurd h.1 (by simp [flat])
    | tup cs => exact absurd h.1 (by simp [flat])
    | row a b c d => exact absurd h.1 (by simp [flat])
    | ptr a b => exact absurd h.1 (by simp [flat])
    | _ => simp only [PV.toksL, PV.toks, List.nil_append, ih]
theorem rens_flat (ρ : Nat → Option Nat) : ∀ {env : List PV}, env.all flat = true → PV.rens ρ env = env
  | [], _ => rfl
  | p :: r, h => by
    simp only [List.all_cons, Bool.and_eq_true] at h
    have ih := rens_flat ρ h.2
    cases p with
    | sl t sz n cs => cases t with
      | no => simp only [PV.rens, PV.ren, Tk.ren, ih]
      | nil => exact absurd h.1 (by simp [flat])
      | tok k => exact absurd h.1 (by simp [flat])
    | fn f cs => exact absurd h.1 (by simp [flat])
    | agg cs => exact absurd h.1 (by simp [flat])
    | tup cs => exact absurd h.1 (by simp [flat])
    | row a b c d => exact absurd h.1 (by simp [flat])
    | ptr a b => exact absurd h.1 (by simp [flat])
    | _ => simp only [PV.rens, PV.ren, ih]
structure Quiet (H : Hp) : Prop where
  obs : nilObs H.length H = H
  comp : ∀ env, env.all flat = true → compact H.length env H = (env, H)
theorem Quiet.head {H : Hp} (h : Quiet H) {env : List PV} (he : env.all flat = true) : headS H.length env H = (env, H) := by
  unfold headS
  rw [nilTs_flat he]
  show compact H.length env (nilObs H.length H) = _
  rw [h.obs, h.comp env he]
theorem Quiet.fin {H : Hp} (h : Quiet H) {r : PV} (hr : flat r = true) : evEnd false H.length r H = some (r, H) := by
  have h1 := h.comp [r] (by simp [hr])
  simp only [evEnd]
  rw [h1]
  have h2 : (compact H.length [r] H).1 = [r] := by rw [h1]
  have h3 : PV.rens (renOf H.length H (used H.length [r] H)) [r] = [r] := h2
  simp only [PV.rens, List.cons.injEq, and_true] at h3
  rw [h3]
theorem quiet_nil : Quiet [] := ⟨rfl, fun env he => by
  unfold compact used
  rw [toks_flat he]
  show (PV.rens _ env, _) = _
  rw [rens_flat _ he]
  rfl⟩
theorem head0 {env : List PV} (he : env.all flat = true) : headS 0 env [] = (env, []) := quiet_nil.head he
theorem quiet_fn (f : Nat) : Quiet [.cells [.fn f []]] := ⟨rfl, fun env he => by
  unfold compact used
  rw [toks_flat he]
  show (PV.rens _ env, _) = _
  rw [rens_flat _ he]
  rfl⟩
theorem byte_ne (c : UInt8) (n : Nat) (hn : n < 256) : (!decide ((c.toNat : Int) = n)) = !(c == UInt8.ofNat n) := by
  congr 1
  have : (UInt8.ofNat n).toNat = n := by rw [UInt8.toNat_ofNat']; omega
  by_cases h : c = UInt8.ofNat n
  · subst h; simp [this]
  · have h2 : c.toNat ≠ n := fun e => h (UInt8.toNat_inj.1 (by rw [this]; exact e))
    have h3 : ¬ ((c.toNat : Int) = n) := by omega
    simp [h, h3]
theorem byte_back (c : UInt8) : ((c.toNat : Int).toNat).toUInt8 = c := by
  rw [Int.toNat_natCast]
  exact UInt8.ofNat_toNat
theorem idxB_neg (l : List UInt8) (c : UInt8) : decide (idxB l c < 0) = !l.contains c := by
  rcases idxB_cases l c with ⟨h1, h2⟩ | ⟨a, b, h1, h2, h3⟩
  · rw [h1]; simp [h2]
  · rw [h3, h1]; simp
/-! ### Loops -/
/-- A loop by what each state comes to: the next state, or the answer. -/
theorem loop_law {σ : Type} {n : Nat} {body : List PV → Hp → Res} (E : σ → List PV) (G : σ → Hp) (μ : σ → Nat) (I : σ → Prop) (R : σ → Fl × List PV × Hp)
    (h : ∀ s, I s → (body (E s) (G s) = some (R s) ∧ (R s).1 ≠ .nx) ∨ ∃ s' e H, body (E s) (G s) = some (.nx, e, H) ∧ headS n e H = (E s', G s') ∧ I s' ∧ μ s' < μ s ∧ R s' = R s) :
    ∀ (k : Nat) (s : σ) (env : List PV) (H : Hp), headS n env H = (E s, G s) → I s → μ s < k → loopL n body k env H = some (R s)
  | 0, s, env, H, _, _, hk => by omega
  | k + 1, s, env, H, hh, hi, hk => by
    rw [loopL_succ, hh]
    dsimp only
    rcases h s hi with ⟨h1, h2⟩ | ⟨s', e, H', h1, h2, h3, h4, h5⟩
    · rw [h1]
      split
      · rename_i e' H'' he
        rw [Option.some.inj he] at h2
        exact absurd rfl h2
      · rfl
    · rw [h1, ← h5]
      exact loop_law E G μ I R h k s' e H' h2 h3 (by omega)
/-- The same where the answer is told by a property. -/
theorem loop_post {σ : Type} {n : Nat} {body : List PV → Hp → Res} (E : σ → List PV) (G : σ → Hp) (μ : σ → Nat) (I : σ → Prop) (Q : Fl × List PV × Hp → Prop)
    (h : ∀ s, I s → (∃ r, body (E s) (G s) = some r ∧ r.1 ≠ .nx ∧ Q r) ∨ ∃ s' e H, body (E s) (G s) = some (.nx, e, H) ∧ headS n e H = (E s', G s') ∧ I s' ∧ μ s' < μ s) :
    ∀ (k : Nat) (s : σ) (env : List PV) (H : Hp), headS n env H = (E s, G s) → I s → μ s < k → ∃ r, loopL n body k env H = some r ∧ Q r
  | 0, s, env, H, _, _, hk => by omega
  | k + 1, s, env, H, hh, hi, hk => by
    rw [loopL_succ, hh]
    dsimp only
    rcases h s hi with ⟨r, h1, h2, h3⟩ | ⟨s', e, H', h1, h2, h3, h4⟩
    · refine ⟨r, ?_, h3⟩
      rw [h1]
      split
      · rename_i e' H'' he
        rw [Option.some.inj he] at h2
        exact absurd rfl h2
      · rfl
    · rw [h1]
      exact loop_post E G μ I Q h k s' e H' h2 h3 (by omega)
end Go.Proofs.YtnljpfjoboafoaaDoor.Ev
