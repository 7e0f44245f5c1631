/- SpoolRefuses: nineteen closed cases. -/
import Derived.Test.YtnljpfjoboafoaaDoorBase
namespace Go.Proofs.YtnljpfjoboafoaaDoor.Tab
set_option linter.all false
open Go Go.RowKit Go.Proofs.YtnljpfjoboafoaaDoor.Ev
theorem T_wakes : T 15 [] [] = some (.bool true, []) := evT_iff.2 ⟨300, by kernel_rfl⟩
/-- The same tree, with a number in the place where one is made of the argument. -/
def isIdx : COp → Option X
  | .cvt .i64 x => some x
  | _ => none
theorem isIdx_eq {o : COp} {x : X} (h : isIdx o = some x) : o = .cvt .i64 x := by
  unfold isIdx at h
  split at h
  · cases h; rfl
  · cases h
def idxAt (z : Int) : LC → LC
  | .op o g r => match isIdx o with
    | some _ => .op (.mv (.c (.int .i64 z))) g r
    | none => .op o g (idxAt z r)
  | .cond c a b => .cond c a (idxAt z b)
  | l => l
/-- What stands there. -/
def runTo (c : Ev.Cl) : LC → List PV → Hp → Option PV
  | .op o none r, env, H => match isIdx o with
    | some x => some (x.ev env)
    | none => match evalOp c env H o with | some (v, H') => runTo c r (v :: env) H' | none => none
  | .cond x _ b, env, H => match x.ev env with | .bool false => runTo c b env H | _ => none
  | _, _, _ => none
theorem run_idx {c : Ev.Cl} {k : Nat} {kk : IntKind} {n : Int} : ∀ (L : LC) (env : List PV) (H : Hp), runTo c L env H = some (.int kk n) → evL c k (idxAt (IntKind.i64.wrap n) L) env H = evL c k L env H := by
  intro L
  induction L with
  | op o g r ih =>
    intro env H h
    cases g with
    | some x => simp only [runTo] at h; cases h
    | none =>
      simp only [runTo] at h
      cases hi : isIdx o with
      | some x =>
        rw [hi] at h
        obtain rfl := isIdx_eq hi
        have h := Option.some.inj h
        show evL c k (.op (.mv (.c (.int .i64 (IntKind.i64.wrap n)))) none r) env H = _
        rw [evL_op, evL_op]
        simp only [evalOp, h]
        rfl
      | none =>
        rw [hi] at h
        have e : idxAt (IntKind.i64.wrap n) (.op o none r) = .op o none (idxAt (IntKind.i64.wrap n) r) := by
          simp only [idxAt, hi]
        rw [e, evL_op, evL_op]
        cases he : evalOp c env H o with
        | none => rfl
        | some vH =>
          obtain ⟨v, H'⟩ := vH
          rw [he] at h
          rw [evK_some, evK_some]
          exact ih _ _ h
  | cond x a b iha ihb =>
    intro env H h
    simp only [runTo] at h
    split at h
    · rename_i hx
      simp only [idxAt, evL, hx, Bool.false_eq_true, if_false]
      exact ihb _ _ h
    · cases h
  | _ => intros; rfl
theorem evFL_at {f : Nat} {F : LF} {args : List PV} {H : Hp} {k : Nat} (h1 : ov f = none) (h2 : lt f = some F) (h3 : args.length = F.np) : evFL lt ov (k + 1) f args H = (match evL (evFL lt ov k) k F.body args H with
  | some (.ex _, _, _) => none
  | some (_, e, H') => (match evR e H' F.res with | some l => evEnd F.pub H.length (one? l) H' | none => none)
  | none => none) := by
  simp only [evFL, h1, h2, h3, if_true]
  rfl
def atZ (F : LF) (k : Nat) (args : List PV) (H : Hp) (z : Int) : Option (PV × Hp) := match evL (evFL lt ov k) k (idxAt z F.body) args H with
  | some (.ex _, _, _) => none
  | some (_, e, H') => (match evR e H' F.res with | some l => evEnd F.pub H.length (one? l) H' | none => none)
  | none => none
theorem evFL_idx {f : Nat} {F : LF} {args : List PV} {H : Hp} {k : Nat} {kk : IntKind} {n : Int} (h1 : ov f = none) (h2 : lt f = some F) (h3 : args.length = F.np) (hr : runTo (evFL lt ov k) F.body args H = some (.int kk n)) :
    evFL lt ov (k + 1) f args H = atZ F k args H (IntKind.i64.wrap n) := by
  rw [evFL_at h1 h2 h3]
  unfold atZ
  rw [run_idx _ _ _ hr]
theorem run6 (how : Int) : runTo (evFL lt ov 299) l6.body [.int .i64 how] [] = some (.int .u64 ((IntKind.u64.wrap how).tmod (IntKind.u64.wrap 19))) := by kernel_rfl
theorem atA (how : Int) : evFL lt ov 300 6 [.int .i64 how] [] = atZ l6 299 [.int .i64 how] [] (IntKind.i64.wrap ((IntKind.u64.wrap how).tmod (IntKind.u64.wrap 19))) :=
  evFL_idx (F := l6) rfl rfl rfl (run6 how)
theorem at0 (how : Int) : atZ l6 299 [.int .i64 how] [] 0 = some (.bool true, []) := by kernel_rfl
theorem at1 (how : Int) : atZ l6 299 [.int .i64 how] [] 1 = some (.bool true, []) := by kernel_rfl
theorem at2 (how : Int) : atZ l6 299 [.int .i64 how] [] 2 = some (.bool true, []) := by kernel_rfl
theorem at3 (how : Int) : atZ l6 299 [.int .i64 how] [] 3 = some (.bool true, []) := by kernel_rfl
theorem at4 (how : Int) : atZ l6 299 [.int .i64 how] [] 4 = some (.bool true, []) := by kernel_rfl
theorem at5 (how : Int) : atZ l6 299 [.int .i64 how] [] 5 = some (.bool true, []) := by kernel_rfl
theorem at6 (how : Int) : atZ l6 299 [.int .i64 how] [] 6 = some (.bool true, []) := by kernel_rfl
theorem at7 (how : Int) : atZ l6 299 [.int .i64 how] [] 7 = some (.bool true, []) := by kernel_rfl
theorem at8 (how : Int) : atZ l6 299 [.int .i64 how] [] 8 = some (.bool true, []) := by kernel_rfl
theorem at9 (how : Int) : atZ l6 299 [.int .i64 how] [] 9 = some (.bool true, []) := by kernel_rfl
theorem at10 (how : Int) : atZ l6 299 [.int .i64 how] [] 10 = some (.bool true, []) := by kernel_rfl
theorem at11 (how : Int) : atZ l6 299 [.int .i64 how] [] 11 = some (.bool true, []) := by kernel_rfl
theorem at12 (how : Int) : atZ l6 299 [.int .i64 how] [] 12 = some (.bool true, []) := by kernel_rfl
theorem at13 (how : Int) : atZ l6 299 [.int .i64 how] [] 13 = some (.bool true, []) := by kernel_rfl
theorem at14 (how : Int) : atZ l6 299 [.int .i64 how] [] 14 = some (.bool true, []) := by kernel_rfl
theorem at15 (how : Int) : atZ l6 299 [.int .i64 how] [] 15 = some (.bool true, []) := by kernel_rfl
theorem at16 (how : Int) : atZ l6 299 [.int .i64 how] [] 16 = some (.bool true, []) := by kernel_rfl
theorem at17 (how : Int) : atZ l6 299 [.int .i64 how] [] 17 = some (.bool true, []) := by kernel_rfl
theorem at18 (how : Int) : atZ l6 299 [.int .i64 how] [] 18 = some (.bool true, []) := by kernel_rfl
theorem z19 (how : Int) : ∃ k : Nat, k < 19 ∧ IntKind.i64.wrap ((IntKind.u64.wrap how).tmod (IntKind.u64.wrap 19)) = k := by
  have h0 : 0 ≤ IntKind.u64.wrap how := Int.emod_nonneg _ (by decide)
  have e19 : IntKind.u64.wrap 19 = 19 := rfl
  rw [e19, Int.tmod_eq_emod_of_nonneg h0]
  have h1 := Int.emod_nonneg (IntKind.u64.wrap how) (show (19 : Int) ≠ 0 by decide)
  have h2 := Int.emod_lt_of_pos (IntKind.u64.wrap how) (show (0 : Int) < 19 by decide)
  refine ⟨((IntKind.u64.wrap how) % 19).toNat, by omega, ?_⟩
  rw [wr (by omega) (by omega)]
  omega
theorem lawSpoolRefuses (how : Int) (hh : (Lit.int .i64 how).wf = true) :
    evT lt ov 6 [.int .i64 how] [] = some (.bool true, []) := by
  refine evT_iff.2 ⟨300, ?_⟩
  rw [atA]
  obtain ⟨k, hk, e⟩ := z19 how
  rw [e]
  match k, hk with
  | 0, _ => exact at0 how
  | 1, _ => exact at1 how
  | 2, _ => exact at2 how
  | 3, _ => exact at3 how
  | 4, _ => exact at4 how
  | 5, _ => exact at5 how
  | 6, _ => exact at6 how
  | 7, _ => exact at7 how
  | 8, _ => exact at8 how
  | 9, _ => exact at9 how
  | 10, _ => exact at10 how
  | 11, _ => exact at11 how
  | 12, _ => exact at12 how
  | 13, _ => exact at13 how
  | 14, _ => exact at14 how
  | 15, _ => exact at15 how
  | 16, _ => exact at16 how
  | 17, _ => exact at17 how
  | 18, _ => exact at18 how
  | k + 19, hk => exact absurd hk (by omega)
end Go.Proofs.YtnljpfjoboafoaaDoor.Tab
