/- What a function does, whatever the count of rounds; steps by which a tree is read. -/
import Derived.Test.YtnljpfjoboafoaaDoorEv26
import Derived.IntWalk
namespace Go.Proofs.YtnljpfjoboafoaaDoor.Ev
set_option linter.all false
open Go Go.RowKit

abbrev Cl := Nat → List PV → Hp → Option (PV × Hp)
theorem loopL_mono {n : Nat} {body body' : List PV → Hp → Res} (hb : ∀ env H r, body env H = some r → body' env H = some r) : ∀ {k k' : Nat} {env : List PV} {H : Hp} {r : Fl × List PV × Hp}, k ≤ k' → loopL n body k env H = some r → loopL n body' k' env H = some r
  | 0, _, _, _, _, _, h => by simp [loopL] at h
  | k + 1, 0, _, _, _, hk, _ => by omega
  | k + 1, k' + 1, env, H, r, hk, h => by
    simp only [loopL] at h ⊢
    split at h
    · rename_i e H1 h1
      rw [hb _ _ _ h1]
      exact loopL_mono hb (by omega) h
    · rename_i hne
      rw [hb _ _ _ h]
      split
      · rename_i h2; cases h2; exact absurd h (hne _ _)
      · rfl
theorem evL_mono {c c' : Cl} (hc : ∀ f a H r, c f a H = some r → c' f a H = some r) {k k' : Nat} (hk : k ≤ k') : ∀ (l : LC) {env : List PV} {H : Hp} {r : Fl × List PV × Hp}, evL c k l env H = some r → evL c' k' l env H = some r := by
  intro l
  induction l with
  | nx L => intro env H r h; exact h
  | op o g r ih =>
    intro env H x h
    simp only [evL] at h ⊢
    split at h
    · rename_i hw
      split at h
      · rename_i v H1 h1
        rw [evalOp_mono hc h1]
        exact ih h
      · cases h
    · exact ih h
    · cases h
  | sel n cc b a y r iha ihr =>
    intro env H x h
    simp only [evL] at h ⊢
    split at h
    · rename_i t ht
      split at h
      · rename_i htb
        rw [if_pos htb]
        split at h
        · rename_i v H1 h1
          rw [iha h1]
          exact ihr h
        · cases h
      · rename_i htb
        rw [if_neg htb]
        exact ihr h
    · cases h
  | cond cc a b iha ihb =>
    intro env H x h
    simp only [evL] at h ⊢
    split at h
    · split at h
      · rename_i t _ htt; rw [if_pos htt]; exact iha h
      · rename_i t _ htt; rw [if_neg htt]; exact ihb h
    · cases h
  | join S a r iha ihr =>
    intro env H x h
    simp only [evL] at h ⊢
    split at h
    · rename_i e H1 h1
      rw [iha h1]
      exact ihr h
    · rename_i hne
      rw [iha h]
      split
      · rename_i h2; cases h2; exact absurd h (hne _ _)
      · rfl
  | block id a iha =>
    intro env H x h
    simp only [evL] at h ⊢
    split at h
    · rename_i i e H1 h1
      rw [iha h1]
      exact h
    · rename_i hne
      rw [iha h]
      split
      · rename_i h2; cases h2; exact absurd h (hne _ _ _)
      · rfl
  | loop L b ih => intro env H x h; simp only [evL] at h ⊢; exact loopL_mono (fun _ _ _ h => ih h) hk h
  | exit id L => intro env H r h; exact h
  | ret L => intro env H r h; exact h

section
variable {lt : Nat → Option LF} {ov : Ov}
theorem evFL_mono : ∀ {k k' : Nat}, k ≤ k' → ∀ f a H r, evFL lt ov k f a H = some r → evFL lt ov k' f a H = some r
  | 0, _, _, _, _, _, _, h => by simp [evFL] at h
  | k + 1, 0, hk, _, _, _, _, _ => by omega
  | k + 1, k' + 1, hk, f, a, H, r, h => by
    simp only [evFL] at h ⊢
    split at h
    · exact h
    · split at h
      · cases h
      · split at h
        · rename_i hl
          rw [if_pos hl]
          split at h
          · cases h
          · rename_i fl e H1 hne h1
            rw [evL_mono (evFL_mono (Nat.le_of_succ_le_succ hk)) (Nat.le_of_succ_le_succ hk) _ h1]
            cases fl with
            | ex i => exact (hne i rfl).elim
            | nx => exact h
            | rt => exact h
          · cases h
        · cases h
open Classical in
/-- What a function does. -/
noncomputable def evT (lt : Nat → Option LF) (ov : Ov) : Cl := fun f a H => if h : ∃ r k, evFL lt ov k f a H = some r then some h.choose else none
theorem evT_iff {f : Nat} {a : List PV} {H : Hp} {r : PV × Hp} : evT lt ov f a H = some r ↔ ∃ k, evFL lt ov k f a H = some r := by
  unfold evT
  constructor
  · intro h
    split at h
    · rename_i h0
      cases h
      exact h0.choose_spec
    · cases h
  · rintro ⟨k, h⟩
    have h0 : ∃ r k, evFL lt ov k f a H = some r := ⟨r, k, h⟩
    rw [dif_pos h0]
    obtain ⟨k', h'⟩ := h0.choose_spec
    have h1 := evFL_mono (Nat.le_max_left k k') _ _ _ _ h
    have h2 := evFL_mono (Nat.le_max_right k k') _ _ _ _ h'
    rw [h1] at h2
    exact congrArg some (Option.some.inj h2).symm
/-- What is read off a tree takes a count of rounds. -/
theorem evalOp_low {env : List PV} {H : Hp} {o : COp} {r : PV × Hp} (h : evalOp (evT lt ov) env H o = some r) : ∃ k, evalOp (evFL lt ov k) env H o = some r := by
  cases o
  case call refs keep g args =>
    simp only [evalOp] at h ⊢
    split at h
    · rename_i hr
      simp only [hr, if_true]
      split at h
      · rename_i hk
        simp only [hk, if_true]
        split at h
        · rename_i ps hps
          split at h
          · rename_i r' H' h1
            obtain ⟨k, h2⟩ := evT_iff.1 h1
            exact ⟨k, by simp only [h2]; exact h⟩
          · cases h
        · cases h
      · rename_i hk
        simp only [hk]
        exact evT_iff.1 h
    · rename_i hr
      simp only [hr]
      split at h
      · rename_i r' H' h1
        obtain ⟨k, h2⟩ := evT_iff.1 h1
        exact ⟨k, by simp only [h2]; exact h⟩
      · cases h
  case callw keep x args =>
    simp only [evalOp] at h ⊢
    split at h
    · rename_i f caps hx
      split at h
      · rename_i r' H' h1
        obtain ⟨k, h2⟩ := evT_iff.1 h1
        exact ⟨k, by simp only [h2]; exact h⟩
      · cases h
    · cases h
  case callv x args =>
    simp only [evalOp] at h ⊢
    split at h
    · rename_i f caps hx
      obtain ⟨k, h2⟩ := evT_iff.1 h
      exact ⟨k, h2⟩
    · cases h
  all_goals exact ⟨0, h⟩
theorem loop_low {n : Nat} {b : LC} {k0 : Nat} (ih : ∀ {env : List PV} {H : Hp} {r : Fl × List PV × Hp}, evL (evT lt ov) k0 b env H = some r → ∃ k, evL (evFL lt ov k) k b env H = some r) : ∀ (j : Nat) {env : List PV} {H : Hp} {r : Fl × List PV × Hp},
    loopL n (evL (evT lt ov) k0 b) j env H = some r → ∃ k, loopL n (evL (evFL lt ov k) k b) k env H = some r
  | 0, _, _, _, h => by simp [loopL] at h
  | j + 1, env, H, r, h => by
    simp only [loopL] at h
    split at h
    · rename_i e H1 h1
      obtain ⟨k1, h2⟩ := ih h1
      obtain ⟨k2, h3⟩ := loop_low ih j h
      refine ⟨max k1 k2 + 1, ?_⟩
      simp only [loopL]
      rw [evL_mono (evFL_mono (by omega)) (by omega) _ h2]
      exact loopL_mono (fun env H r h => evL_mono (evFL_mono (by omega)) (by omega) _ h) (by omega) h3
    · rename_i hne
      obtain ⟨k1, h2⟩ := ih h
      refine ⟨k1 + 1, ?_⟩
      simp only [loopL]
      rw [evL_mono (evFL_mono (by omega)) (by omega) _ h2]
      split
      · rename_i h4; cases h4; exact absurd h (hne _ _)
      · rfl
theorem evL_low {k0 : Nat} : ∀ (l : LC) {env : List PV} {H : Hp} {r : Fl × List PV × Hp}, evL (evT lt ov) k0 l env H = some r → ∃ k, evL (evFL lt ov k) k l env H = some r := by
  have up : ∀ {k k' : Nat} {env : List PV} {H : Hp} {r : Fl × List PV × Hp} (l : LC), k ≤ k' → evL (evFL lt ov k) k l env H = some r → evL (evFL lt ov k') k' l env H = some r := fun l hk h => evL_mono (evFL_mono hk) hk l h
  intro l
  induction l with
  | nx L => intro env H r h; exact ⟨0, h⟩
  | op o g r ih =>
    intro env H x h
    simp only [evL] at h
    split at h
    · rename_i hw
      split at h
      · rename_i v H1 h1
        obtain ⟨k1, h2⟩ := evalOp_low h1
        obtain ⟨k2, h3⟩ := ih h
        refine ⟨max k1 k2, ?_⟩
        simp only [evL, hw]
        rw [evalOp_mono (evFL_mono (Nat.le_max_left k1 k2)) h2]
        exact up r (Nat.le_max_right k1 k2) h3
      · cases h
    · rename_i hw
      obtain ⟨k2, h3⟩ := ih h
      exact ⟨k2, by simp only [evL, hw]; exact h3⟩
    · cases h
  | sel n cc b a y r iha ihr =>
    intro env H x h
    simp only [evL] at h
    split at h
    · rename_i t ht
      split at h
      · rename_i htb
        split at h
        · rename_i v H1 h1
          obtain ⟨k1, h2⟩ := iha h1
          obtain ⟨k2, h3⟩ := ihr h
          refine ⟨max k1 k2, ?_⟩
          simp only [evL, ht, if_pos htb]
          rw [up a (Nat.le_max_left k1 k2) h2]
          exact up r (Nat.le_max_right k1 k2) h3
        · cases h
      · rename_i htb
        obtain ⟨k2, h3⟩ := ihr h
        exact ⟨k2, by simp only [evL, ht, if_neg htb]; exact h3⟩
    · cases h
  | cond cc a b iha ihb =>
    intro env H x h
    simp only [evL] at h
    split at h
    · rename_i t ht
      split at h
      · rename_i htt
        obtain ⟨k, h1⟩ := iha h
        exact ⟨k, by simp only [evL, ht, if_pos htt]; exact h1⟩
      · rename_i htt
        obtain ⟨k, h1⟩ := ihb h
        exact ⟨k, by simp only [evL, ht, if_neg htt]; exact h1⟩
    · cases h
  | join S a r iha ihr =>
    intro env H x h
    simp only [evL] at h
    split at h
    · rename_i e H1 h1
      obtain ⟨k1, h2⟩ := iha h1
      obtain ⟨k2, h3⟩ := ihr h
      refine ⟨max k1 k2, ?_⟩
      simp only [evL]
      rw [up a (Nat.le_max_left k1 k2) h2]
      exact up r (Nat.le_max_right k1 k2) h3
    · rename_i hne
      obtain ⟨k1, h2⟩ := iha h
      refine ⟨k1, ?_⟩
      simp only [evL]
      rw [h2]
      split
      · rename_i h4; cases h4; exact absurd h (hne _ _)
      · rfl
  | block id a iha =>
    intro env H x h
    simp only [evL] at h
    split at h
    · rename_i i e H1 h1
      obtain ⟨k1, h2⟩ := iha h1
      refine ⟨k1, ?_⟩
      simp only [evL]
      rw [h2]
      exact h
    · rename_i hne
      obtain ⟨k1, h2⟩ := iha h
      refine ⟨k1, ?_⟩
      simp only [evL]
      rw [h2]
      split
      · rename_i h4; cases h4; exact absurd h (hne _ _ _)
      · rfl
  | loop L b ih => intro env H x h; simp only [evL] at h ⊢; exact loop_low ih _ h
  | exit id L => intro env H r h; exact ⟨0, h⟩
  | ret L => intro env H r h; exact ⟨0, h⟩

/-- A function by its tree. -/
theorem evT_of {f : Nat} {F : LF} {args : List PV} {H H' : Hp} {k : Nat} {e l : List PV} {r : PV × Hp} (h1 : ov f = none) (h2 : lt f = some F) (h3 : args.length = F.np)
    (he : evL (evT lt ov) k F.body args H = some (.rt, e, H')) (hr : evR e H' F.res = some l) (hf : evEnd F.pub H.length (one? l) H' = some r) : evT lt ov f args H = some r := by
  obtain ⟨k', h⟩ := evL_low _ he
  refine evT_iff.2 ⟨k' + 1, ?_⟩
  simp only [evFL, h1, h2, h3, if_true, h, hr, hf]
theorem evT_ov {f : Nat} {args : List PV} {H : Hp} {φ : List PV → Hp → Option (PV × Hp)} {r : PV × Hp} (h1 : ov f = some φ) (h : φ args H = some r) : evT lt ov f args H = some r :=
  evT_iff.2 ⟨1, by simp only [evFL, h1, h]⟩
end

theorem law_ev {P : Program} (hmx : P.follows .mixedOrders = true) {lt : Nat → Option LF} {ov : Ov} (hlt : TreeOk P lt) (hov : OvOk P ov) {f : Nat} {args : List PV} {H' : Hp} (h : evT lt ov f args [] = some (.bool true, H'))
    {w : World} (hz : ∀ b, glob = some b → ∃ m, w.cell? ⟨b, 0, none⟩ = some (.int .i64 m)) (hk : ∀ b, b ∈ constB → ∃ cs el fr, w.heap[b]? = some (.cells cs el fr) ∧ blockOk b cs) {vs : List Value} (hv : RVs (gh0 w) [] args vs) :
    Calls P f ⟨vs⟩ w fun e w' => e = .returned (.bool true) ∧ Below w.heap.size w w' := by
  obtain ⟨k, h⟩ := evT_iff.1 h
  exact law_tree hmx hlt hov h hz hk hv

/-! ### Steps -/
section
variable {c : Cl} {k : Nat} {env : List PV} {H : Hp}
def evK (c : Cl) (k : Nat) (r : LC) (env : List PV) : Option (PV × Hp) → Res
  | some (v, H') => evL c k r (v :: env) H'
  | none => none
def evJ (c : Cl) (k : Nat) (r : LC) : Res → Res
  | some (.nx, e, H') => evL c k r e H'
  | x => x
def evB (id : Nat) : Res → Res
  | some (.ex i, e, H') => if i = id then some (.nx, e, H') else some (.ex i, e, H')
  | x => x
def evC2 (c : Cl) (k : Nat) (a b : LC) (env : List PV) (H : Hp) : PV → Res
  | .bool t => if t = true then evL c k a env H else evL c k b env H
  | _ => none
def evS1 (c : Cl) (k : Nat) (r : LC) (env : List PV) : Res → Res
  | some (.nx, [v], H') => evL c k r (v :: env) H'
  | _ => none
def evS (c : Cl) (k : Nat) (b : Bool) (r : LC) (env : List PV) (H : Hp) (a : Res) (y : PV) : PV → Res
  | .bool t => if t = b then evS1 c k r env a else evL c k r (y :: env) H
  | _ => none
theorem evL_nx (L : List X) : evL c k (.nx L) env H = some (.nx, L.map (X.ev env), H) := Eq.trans rfl rfl
theorem evL_exit (i : Nat) (L : List X) : evL c k (.exit i L) env H = some (.ex i, L.map (X.ev env), H) := Eq.trans rfl rfl
theorem evL_ret (L : List X) : evL c k (.ret L) env H = some (.rt, L.map (X.ev env), H) := Eq.trans rfl rfl
theorem evL_op (o : COp) (r : LC) : evL c k (.op o none r) env H = evK c k r env (evalOp c env H o) := Eq.trans rfl rfl
theorem evL_join (S : List Nat) (a r : LC) : evL c k (.join S a r) env H = evJ c k r (evL c k a env H) := Eq.trans rfl rfl
theorem evL_block (id : Nat) (a : LC) : evL c k (.block id a) env H = evB id (evL c k a env H) := Eq.trans rfl rfl
theorem evL_cond (x : X) (a b : LC) : evL c k (.cond x a b) env H = evC2 c k a b env H (x.ev env) := Eq.trans rfl rfl
theorem evL_sel (n : Nat) (x : X) (b : Bool) (a : LC) (y : X) (r : LC) : evL c k (.sel n x b a y r) env H = evS c k b r env H (evL c k a env H) (y.ev env) (x.ev env) := by
  simp only [evL, evS]
  cases X.ev env x with
  | bool t =>
    by_cases h : t = b
    · simp only [h, if_true]
      unfold evS1
      rfl
    · simp only [h, if_false]
  | _ => rfl
theorem evL_loop (L : List X) (b : LC) : evL c k (.loop L b) env H = loopL H.length (evL c k b) k (L.map (X.ev env)) H := Eq.trans rfl rfl
theorem evK_some (r : LC) (v : PV) (H' : Hp) : evK c k r env (some (v, H')) = evL c k r (v :: env) H' := Eq.trans rfl rfl
theorem evJ_nx (r : LC) (e : List PV) (H' : Hp) : evJ c k r (some (.nx, e, H')) = evL c k r e H' := Eq.trans rfl rfl
theorem evJ_rt (r : LC) (e : List PV) (H' : Hp) : evJ c k r (some (.rt, e, H')) = some (.rt, e, H') := Eq.trans rfl rfl
theorem evJ_ex (r : LC) (i : Nat) (e : List PV) (H' : Hp) : evJ c k r (some (.ex i, e, H')) = some (.ex i, e, H') := Eq.trans rfl rfl
theorem evB_nx (id : Nat) (e : List PV) (H' : Hp) : evB id (some (.nx, e, H')) = some (.nx, e, H') := Eq.trans rfl rfl
theorem evB_rt (id : Nat) (e : List PV) (H' : Hp) : evB id (some (.rt, e, H')) = some (.rt, e, H') := Eq.trans rfl rfl
theorem evB_ex (id i : Nat) (e : List PV) (H' : Hp) : evB id (some (.ex i, e, H')) = if i = id then some (.nx, e, H') else some (.ex i, e, H') := Eq.trans rfl rfl
theorem evC2_bool (a b : LC) (t : Bool) : evC2 c k a b env H (.bool t) = if t = true then evL c k a env H else evL c k b env H := Eq.trans rfl rfl
theorem evS_bool (b : Bool) (a : Res) (y : PV) (r : LC) (t : Bool) : evS c k b r env H a y (.bool t) = if t = b then evS1 c k r env a else evL c k r (y :: env) H := Eq.trans rfl rfl
theorem evS_and (r : LC) (t x : Bool) : evS c k true r env H (some (.nx, [.bool x], H)) (.bool false) (.bool t) = evL c k r (.bool (t && x) :: env) H := by cases t <;> rfl
theorem evS_or (r : LC) (t x : Bool) : evS c k false r env H (some (.nx, [.bool x], H)) (.bool true) (.bool t) = evL c k r (.bool (t || x) :: env) H := by cases t <;> rfl
theorem evS_yes (b : Bool) (r : LC) (a : Res) (y : PV) : evS c k b r env H a y (.bool b) = evS1 c k r env a := by cases b <;> rfl
theorem evS_no (b : Bool) (r : LC) (a : Res) (y : PV) : evS c k b r env H a y (.bool !b) = evL c k r (y :: env) H := by cases b <;> rfl
theorem evS_tf (r : LC) (a : Res) (y : PV) : evS c k true r env H a y (.bool false) = evL c k r (y :: env) H := Eq.trans rfl rfl
theorem evS_ft (r : LC) (a : Res) (y : PV) : evS c k false r env H a y (.bool true) = evL c k r (y :: env) H := Eq.trans rfl rfl
theorem evS1_nx (r : LC) (v : PV) (H' : Hp) : evS1 c k r env (some (.nx, [v], H')) = evL c k r (v :: env) H' := Eq.trans rfl rfl
/-- Both ways go on alike but for one truth value. -/
theorem ite_evL (p : Prop) [Decidable p] (r : LC) (x y : Bool) : (if p then evL c k r (.bool x :: env) H else evL c k r (.bool y :: env) H) = evL c k r (.bool (if p then x else y) :: env) H := by
  split <;> rfl
theorem loopL_succ (n : Nat) (body : List PV → Hp → Res) (j : Nat) : loopL n body (j + 1) env H = match body (headS n env H).1 (headS n env H).2 with
    | some (.nx, e, H') => loopL n body j e H'
    | r => r := rfl
theorem ev_t (x : PV) : X.ev (x :: env) (.t 0) = x := Eq.trans rfl rfl
theorem ev_s (x : PV) (n : Nat) : X.ev (x :: env) (.t (n + 1)) = X.ev env (.t n) := Eq.trans rfl rfl
theorem ev_c (v : PV) : X.ev env (.c v) = v := Eq.trans rfl rfl
end
/-! ### Numbers and texts -/
section
variable {k : IntKind} {a b : Int} {s u : List UInt8}
theorem bin_add : binP .add (.int k a) (.int k b) = some (.int k (k.wrap (a + b))) := by simp [binP, intBin]
theorem bin_sub : binP .sub (.int k a) (.int k b) = some (.int k (k.wrap (a - b))) := by simp [binP, intBin]
theorem bin_mul : binP .mul (.int k a) (.int k b) = some (.int k (k.wrap (a * b))) := by simp [binP, intBin]
theorem bin_quo (h : b ≠ 0) : binP .quo (.int k a) (.int k b) = some (.int k (k.wrap (a.tdiv b))) := by simp [binP, intBin, h]
theorem bin_rem (h : b ≠ 0) : binP .rem (.int k a) (.int k b) = some (.int k (a.tmod b)) := by simp [binP, intBin, h]
theorem bin_and : binP .and (.int k a) (.int k b) = some (.int k (k.wrap (BitVec.ofInt k.bits a &&& BitVec.ofInt k.bits b).toNat)) := by simp [binP, intBin]
theorem bin_or : binP .or (.int k a) (.int k b) = some (.int k (k.wrap (BitVec.ofInt k.bits a ||| BitVec.ofInt k.bits b).toNat)) := by simp [binP, intBin]
theorem bin_xor : binP .xor (.int k a) (.int k b) = some (.int k (k.wrap (BitVec.ofInt k.bits a ^^^ BitVec.ofInt k.bits b).toNat)) := by simp [binP, intBin]
theorem bin_eql : binP .eql (.int k a) (.int k b) = some (.bool (decide (a = b))) := by simp [binP, intBin]
theorem bin_neq : binP .neq (.int k a) (.int k b) = some (.bool (!decide (a = b))) := by simp [binP, intBin]
theorem bin_lss : binP .lss (.int k a) (.int k b) = some (.bool (decide (a < b))) := by simp [binP, intBin]
theorem bin_leq : binP .leq (.int k a) (.int k b) = some (.bool (decide (a ≤ b))) := by simp [binP, intBin]
theorem bin_gtr : binP .gtr (.int k a) (.int k b) = some (.bool (decide (b < a))) := by simp [binP, intBin]
theorem bin_geq : binP .geq (.int k a) (.int k b) = some (.bool (decide (b ≤ a))) := by simp [binP, intBin]
theorem sbin_add (h : s.length + u.length ≤ 9223372036854775807) : binP .add (.str s) (.str u) = some (.str (s ++ u)) := by simp [binP, strBin, h]
theorem sbin_eql : binP .eql (.str s) (.str u) = some (.bool (decide (s = u))) := by simp [binP, strBin]
theorem sbin_neq : binP .neq (.str s) (.str u) = some (.bool (!decide (s = u))) := by simp [binP, strBin]
end
end Go.Proofs.YtnljpfjoboafoaaDoor.Ev
