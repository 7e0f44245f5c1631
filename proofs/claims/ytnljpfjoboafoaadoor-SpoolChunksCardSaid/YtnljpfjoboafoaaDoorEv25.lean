/- Trees: the same bodies with what lives alone: each step puts its value ahead of the others; where ways meet, what lives on is chosen. -/
import Derived.Test.YtnljpfjoboafoaaDoorEv22
namespace Go.Proofs.YtnljpfjoboafoaaDoor.Ev
set_option linter.all false
open Go Go.RowKit

inductive LC where
  | nx (L : List X)
  | op (o : COp) (g : Option (Nat × Bool)) (r : LC)
  | sel (n : Nat) (c : X) (b : Bool) (a : LC) (y : X) (r : LC)
  | cond (c : X) (a b : LC)
  | join (S : List Nat) (a r : LC)
  | block (id : Nat) (a : LC)
  | loop (L : List X) (b : LC)
  | exit (id : Nat) (L : List X)
  | ret (L : List X)
  deriving Inhabited

/-- A loop's head over what lives. -/
def headS (n : Nat) (env : List PV) (H : Hp) : List PV × Hp := compact n (nilTs env H).1 (nilObs n (nilTs env H).2)
def loopL (n : Nat) (body : List PV → Hp → Res) : Nat → List PV → Hp → Res
  | 0, _, _ => none
  | k + 1, env, H => match body (headS n env H).1 (headS n env H).2 with
    | some (.nx, e, H') => loopL n body k e H'
    | r => r
def evL (call : Nat → List PV → Hp → Option (PV × Hp)) (k : Nat) : LC → List PV → Hp → Res
  | .nx L, env, H => some (.nx, L.map (X.ev env), H)
  | .op o g r, env, H => match wantP env g with
    | some true => (match evalOp call env H o with | some (v, H') => evL call k r (v :: env) H' | none => none)
    | some false => evL call k r (.und :: env) H
    | none => none
  | .sel _ c b a y r, env, H => match c.ev env with
    | .bool t => if t = b then (match evL call k a env H with
        | some (.nx, [v], H') => evL call k r (v :: env) H'
        | _ => none) else evL call k r (y.ev env :: env) H
    | _ => none
  | .cond c a b, env, H => match c.ev env with | .bool t => (if t = true then evL call k a env H else evL call k b env H) | _ => none
  | .join _ a r, env, H => match evL call k a env H with
    | some (.nx, e, H') => evL call k r e H'
    | x => x
  | .block id a, env, H => match evL call k a env H with
    | some (.ex i, e, H') => if i = id then some (.nx, e, H') else some (.ex i, e, H')
    | x => x
  | .loop L b, env, H => loopL H.length (evL call k b) k (L.map (X.ev env)) H
  | .exit id L, env, H => some (.ex id, L.map (X.ev env), H)
  | .ret L, env, H => some (.rt, L.map (X.ev env), H)

/-! ### What a step sees -/
def COp.mapX (f : X → X) : COp → COp
  | .mv x => .mv (f x) | .box x => .box (f x) | .chk x => .chk (f x) | .snil n x => .snil n (f x) | .inil n x => .inil n (f x) | .un o x => .un o (f x) | .cvt k x => .cvt k (f x) | .cvs x => .cvs (f x) | .frz x => .frz (f x)
  | .s2b r x => .s2b r (f x) | .b2s x => .b2s (f x) | .cut0 s x => .cut0 s (f x) | .fad o x => .fad o (f x) | .ext x i => .ext (f x) i | .len s x => .len s (f x)
  | .pick c a b => .pick (f c) (f a) (f b)
  | .alloc zs => .alloc zs
  | .build zs ps => .build zs (ps.map fun (o, s, x) => (o, s, f x))
  | .lit k sz n zs ps => .lit k sz n zs (ps.map fun (o, s, x) => (o, s, f x))
  | .litr sz n zs ps => .litr sz n zs (ps.map fun (o, s, x) => (o, s, f x))
  | .load a n x => .load a n (f x)
  | .store n a v => .store n (f a) (f v)
  | .bin o x y => .bin o (f x) (f y) | .dif x y => .dif (f x) (f y) | .aeq n ks x y => .aeq n ks (f x) (f y) | .appr s b x y => .appr s b (f x) (f y) | .beq n x y => .beq n (f x) (f y) | .iad s x y => .iad s (f x) (f y) | .idx x y => .idx (f x) (f y) | .app s b x y => .app s b (f x) (f y) | .min x y => .min (f x) (f y) | .max x y => .max (f x) (f y)
  | .cut sz x lo hi => .cut sz (f x) (lo.map f) (hi.map f)
  | .call r k g args => .call r k g (args.map f)
  | .callv x args => .callv (f x) (args.map f)
  | .callw k x args => .callw k (f x) (args.map f)
  | .prt a o n x => .prt a o n (f x)
  | .boxc x => .boxc (f x)
  | .iaa s l x y => .iaa s l (f x) (f y)
  | .clo g caps => .clo g (caps.map f)
  | .no => .no

theorem map_mapX {tm env : List PV} {f : X → X} {l : List X} (h : ∀ x ∈ l, x.ev tm = (f x).ev env) : l.map (X.ev tm) = (l.map f).map (X.ev env) := by
  rw [List.map_map]
  exact List.map_congr_left h
theorem evalOp_mapX {call : Nat → List PV → Hp → Option (PV × Hp)} {tm env : List PV} {f : X → X} (H : Hp) {o : COp} (h : ∀ x ∈ o.xs, x.ev tm = (f x).ev env) : evalOp call tm H o = evalOp call env H (o.mapX f) := by
  have hp : ∀ ps : List (Nat × Nat × X), (∀ x ∈ ps.map (fun (_, _, x) => x), x.ev tm = (f x).ev env) → (ps.map fun (o, s, x) => (o, s, x.ev tm)) = (ps.map fun (o, s, x) => (o, s, f x)).map fun (o, s, x) => (o, s, x.ev env) := fun ps hh => by
    rw [List.map_map]
    exact List.map_congr_left fun p hm => by
      obtain ⟨o, s, x⟩ := p
      simp only [Function.comp, hh x (List.mem_map.2 ⟨(o, s, x), hm, rfl⟩)]
  cases o <;> simp only [COp.xs] at h <;> simp only [evalOp, COp.mapX]
  case build zs ps => rw [hp ps h]
  case lit keep sz n zs ps => rw [hp ps h]
  case litr sz n zs ps => rw [hp ps h]
  case call refs keep g args => rw [map_mapX h]
  case callv x args => rw [map_mapX (fun x hx => h x (by simp [hx])), h x (by simp)]
  case callw keep x args => rw [map_mapX (fun x hx => h x (by simp [hx])), h x (by simp)]
  case clo g caps => rw [map_mapX h]
  case cut sz x lo hi =>
    have hlo : lo.map (X.ev tm) = (lo.map f).map (X.ev env) := by cases lo with | none => rfl | some y => simp only [Option.map_some, h y (by simp)]
    have hhi : hi.map (X.ev tm) = (hi.map f).map (X.ev env) := by cases hi with | none => rfl | some y => simp only [Option.map_some, h y (by simp)]
    rw [hlo, hhi, h x (by simp)]
  all_goals (first | rfl | (simp only [List.mem_cons, List.not_mem_nil, or_false, forall_eq_or_imp, forall_eq] at h; simp only [h]))
theorem evalOp_mono {call call' : Nat → List PV → Hp → Option (PV × Hp)} (hc : ∀ f a H r, call f a H = some r → call' f a H = some r) {tm : List PV} {H : Hp} {o : COp} {r : PV × Hp} (h : evalOp call tm H o = some r) : evalOp call' tm H o = some r := by
  cases o
  case call refs keep g args =>
    simp only [evalOp] at h ⊢
    split at h
    · rename_i hr
      rw [if_pos hr]
      split at h
      · rename_i hk
        rw [if_pos hk]
        split at h
        · rename_i ps hps
          split at h
          · rename_i r' H' h1
            rw [hc _ _ _ _ h1]
            exact h
          · cases h
        · cases h
      · rename_i hk
        rw [if_neg hk]
        exact hc _ _ _ _ h
    · rename_i hr
      rw [if_neg hr]
      split at h
      · rename_i r' H' h1
        rw [hc _ _ _ _ h1]
        exact h
      · cases h
  case callv x args =>
    simp only [evalOp] at h ⊢
    split at h
    · exact hc _ _ _ _ h
    · cases h
  case callw keep x args =>
    simp only [evalOp] at h ⊢
    split at h
    · split at h
      · rename_i r' H' h1
        rw [hc _ _ _ _ h1]
        exact h
      · cases h
    · cases h
  all_goals exact h

/-! ### From slots to trees -/
abbrev Mp := List (Nat × X)
def lk : Mp → Nat → Option X
  | [], _ => none
  | (t, x) :: m, s => if t = s then some x else lk m s
def upX : X → X
  | .t n => .t (n + 1)
  | .c v => .c v
def upM (m : Mp) : Mp := m.map fun (s, x) => (s, upX x)
def sb (m : Mp) : X → X
  | .t n => match lk m n with | some x => x | none => .c .bot
  | .c v => .c v
def okX (m : Mp) : X → Bool
  | .t n => (lk m n).isSome
  | .c _ => true
def enumM (S : List Nat) : Nat → Mp := fun i => match S with
  | [] => []
  | s :: r => (s, .t i) :: enumM r (i + 1)
structure Rel (N : Nat) (m : Mp) (tm env : List PV) : Prop where
  len : tm.length = N
  at_ : ∀ s x, lk m s = some x → tm.getD s .bot = x.ev env

theorem lk_up : ∀ (m : Mp) (s : Nat), lk (upM m) s = (lk m s).map upX
  | [], _ => rfl
  | (t, x) :: m, s => by
    have ih := lk_up m s
    show (if t = s then some (upX x) else lk (upM m) s) = (if t = s then some x else lk m s).map upX
    by_cases h : t = s
    · rw [if_pos h, if_pos h]; rfl
    · rw [if_neg h, if_neg h]; exact ih
theorem upX_ev (x : X) (v : PV) (env : List PV) : (upX x).ev (v :: env) = x.ev env := by cases x <;> rfl
theorem Rel.up {N : Nat} {m : Mp} {tm env : List PV} (h : Rel N m tm env) (v : PV) : Rel N (upM m) tm (v :: env) := ⟨h.len, fun s x hx => by
  rw [lk_up] at hx
  obtain ⟨y, hy, rfl⟩ := Option.map_eq_some_iff.1 hx
  rw [upX_ev]; exact h.at_ s y hy⟩
theorem getD_set (tm : List PV) (d s : Nat) (v : PV) (hd : d < tm.length) : (tm.set d v).getD s .bot = if d = s then v else tm.getD s .bot := by
  rw [List.getD_eq_getElem?_getD, List.getD_eq_getElem?_getD]
  by_cases h : d = s
  · subst h; rw [if_pos rfl, List.getElem?_set_self hd]; rfl
  · rw [if_neg h, List.getElem?_set_ne h]
theorem Rel.set {N : Nat} {m : Mp} {tm env : List PV} (h : Rel N m tm env) {d : Nat} (hd : d < N) {x : X} {v : PV} (hx : x.ev env = v) : Rel N ((d, x) :: m) (tm.set d v) env := ⟨by rw [List.length_set]; exact h.len, fun s y hy => by
  rw [getD_set tm d s v (by rw [h.len]; exact hd)]
  unfold lk at hy
  by_cases e : d = s
  · rw [if_pos e] at hy ⊢; cases hy; exact hx.symm
  · rw [if_neg e] at hy ⊢; exact h.at_ s y hy⟩
def putM (d : Option Nat) (m : Mp) : Mp := match d with | some d => (d, .t 0) :: upM m | none => upM m
theorem Rel.put {N : Nat} {m : Mp} {tm env : List PV} (h : Rel N m tm env) (d : Option Nat) (hd : ∀ k, d = some k → k < N) (v : PV) :
    Rel N (putM d m) (putP tm d v) (v :: env) := by
  cases d with
  | none => exact h.up v
  | some d => exact (h.up v).set (hd d rfl) rfl
theorem Rel.ev {N : Nat} {m : Mp} {tm env : List PV} (h : Rel N m tm env) {x : X} (hx : okX m x = true) : x.ev tm = (sb m x).ev env := by
  cases x with
  | c v => rfl
  | t n =>
    simp only [okX, Option.isSome_iff_exists] at hx
    obtain ⟨y, hy⟩ := hx
    simp only [sb, hy]
    exact h.at_ n y hy
theorem lk_enum {f : Nat → PV} : ∀ (S : List Nat) (i : Nat) (s : Nat) (x : X), lk (enumM S i) s = some x → ∃ j, x = .t (i + j) ∧ S[j]? = some s
  | [], _, _, _, h => by simp [enumM, lk] at h
  | a :: r, i, s, x, h => by
    simp only [enumM, lk] at h
    split at h
    · rename_i e; cases h; exact ⟨0, rfl, by simp [e]⟩
    · obtain ⟨j, rfl, h2⟩ := lk_enum (f := f) r (i + 1) s x h
      exact ⟨j + 1, by rw [show i + 1 + j = i + (j + 1) by omega], by simpa using h2⟩
theorem Rel.enum {N : Nat} {tm : List PV} (S : List Nat) (hl : tm.length = N) : Rel N (enumM S 0) tm (S.map fun s => tm.getD s .bot) := ⟨hl, fun s x hx => by
  obtain ⟨j, rfl, h⟩ := lk_enum (f := fun _ => .bot) S 0 s x hx
  show _ = (S.map fun s => tm.getD s .bot).getD (0 + j) .bot
  rw [List.getD_eq_getElem?_getD (l := S.map _), Nat.zero_add, List.getElem?_map, h]
  rfl⟩

/-- What is handed on at each way out. -/
structure Outs where
  nx : List Nat
  ex : List (Nat × List Nat)
  rt : List Nat
def lkE : List (Nat × List Nat) → Nat → Option (List Nat)
  | [], _ => none
  | (i, S) :: r, j => if i = j then some S else lkE r j
def Outs.sel (o : Outs) : Fl → Option (List Nat)
  | .nx => some o.nx
  | .ex i => lkE o.ex i
  | .rt => some o.rt
def selX (m : Mp) (S : List Nat) : Option (List X) := if S.all fun s => okX m (.t s) then some (S.map fun s => sb m (.t s)) else none
def gOf (m : Mp) : Option (Nat × Bool) → Option (Option (Nat × Bool))
  | none => some none
  | some (t, b) => match lk m t with | some (.t i) => some (some (i, b)) | _ => none
def isMv : CO → Option (Nat × X)
  | ⟨some d, .mv x, none⟩ => some (d, x)
  | _ => none
theorem isMv_eq {o : CO} {d : Nat} {x : X} (h : isMv o = some (d, x)) : o = ⟨some d, .mv x, none⟩ := by
  unfold isMv at h
  split at h
  · cases h; rfl
  · cases h
def dOk (N : Nat) : Option Nat → Bool
  | some d => decide (d < N)
  | none => true
/-! Steps that are taken where a condition holds, and the choice behind them. -/
def dsts (l : List CO) : List Nat := l.filterMap (·.dst)
def strip (t : Nat) (b : Bool) (o : CO) : CO := ⟨o.dst, o.op, if o.g = some (t, b) then none else o.g⟩
/-- Each step hangs on the condition, or on what a step of the group has made. -/
def grpOk (t : Nat) (b : Bool) : List Nat → List CO → Bool
  | _, [] => true
  | ds, o :: r => (match o.g with | some (s, b') => (decide (s = t) && (b' == b)) || ds.contains s | none => false) && decide (o.dst ≠ some t) && (match o.dst with | some d => grpOk t b (d :: ds) r | none => grpOk t b ds r)
def selH : LC → Option (Nat × Bool × LC × LC)
  | .sel l _ b A _ K => some (l, b, A, K)
  | _ => none
def pickOf (b : Bool) : List CO → Option (Nat × Nat × Nat × X × List CO)
  | ⟨some d, .pick (.t t) x y, none⟩ :: r => match (if b then x else y) with | .t s => some (d, t, s, (if b then y else x), r) | .c _ => none
  | _ => none
def notIn (ds : List Nat) : X → Bool
  | .t s => !ds.contains s
  | .c _ => true
def less (m : Mp) (ds : List Nat) : Mp := m.filter fun (s, _) => !ds.contains s
theorem pickOf_eq {b : Bool} {l : List CO} {d t s : Nat} {y : X} {r : List CO} (h : pickOf b l = some (d, t, s, y, r)) :
    ∃ x' y', l = ⟨some d, .pick (.t t) x' y', none⟩ :: r ∧ (if b = true then x' else y') = .t s ∧ (if b = true then y' else x') = y := by
  unfold pickOf at h
  split at h
  · rename_i d0 t0 x' y' r0
    split at h
    · rename_i s0 hs
      cases h
      exact ⟨x', y', rfl, hs, rfl⟩
    · cases h
  · cases h
theorem lk_less {m : Mp} {ds : List Nat} {s : Nat} {x : X} : lk (less m ds) s = some x → lk m s = some x ∧ s ∉ ds := by
  induction m with
  | nil => intro h; cases h
  | cons a m ih =>
    obtain ⟨t, y⟩ := a
    intro h
    unfold less at h
    rw [List.filter_cons] at h
    by_cases hd : ds.contains t = true
    · rw [if_neg (by simpa using hd)] at h
      obtain ⟨h1, h2⟩ := ih h
      have hne : t ≠ s := fun e => h2 (by subst e; simpa using hd)
      exact ⟨by unfold lk; rw [if_neg hne]; exact h1, h2⟩
    · rw [if_pos (by simpa using hd)] at h
      unfold lk at h ⊢
      by_cases e : t = s
      · rw [if_pos e] at h ⊢
        subst e
        exact ⟨h, by simpa using hd⟩
      · rw [if_neg e] at h ⊢
        exact ih h
/-- From a list of steps and bodies to a tree; the tree in hand tells what is handed on where ways meet, and whether ways part for good. -/
def tr (N : Nat) : Nat → List CO → List CC → LC → Mp → Outs → Option LC
  | 0, _, _, _, _, _ => none
  | n + 1, o :: ops, rest, h, m, out => match isMv o with
    | some (d, x) => if d < N ∧ okX m x = true then tr N n ops rest h ((d, sb m x) :: m) out else none
    | none => match selH h with
    | some (l, b, A, K) => (match pickOf b ((o :: ops).drop l) with
      | some (d, t, s, y, ops') => if d < N ∧ grpOk t b [] ((o :: ops).take l) = true ∧ okX m (.t t) = true ∧ okX m y = true ∧ notIn (dsts ((o :: ops).take l)) y = true ∧ ((dsts ((o :: ops).take l)).all fun s => decide (s < N)) = true then
        (match tr N n (((o :: ops).take l).map (strip t b)) [] A m { out with nx := [s] }, tr N n ops' rest K ((d, .t 0) :: upM (less m (dsts ((o :: ops).take l)))) out with
        | some A', some K' => some (.sel l (sb m (.t t)) b A' (sb m y) K') | _, _ => none) else none
      | none => none)
    | none => match h with
      | .op _ _ h => if dOk N o.dst = true ∧ (o.op.xs.all (okX m)) = true then
        (match gOf m o.g, tr N n ops rest h (putM o.dst m) out with | some g', some r => some (.op (o.op.mapX (sb m)) g' r) | _, _ => none) else none
      | _ => none
  | n + 1, [], c :: rest, h, m, out => match c with
    | .skip => tr N n [] rest h m out
    | .reg l => tr N n l rest h m out
    | .seq a b => tr N n [] (a :: b :: rest) h m out
    | .cond c a b => match h with
      | .cond _ A B => if okX m c = true then (match tr N n [] (a :: rest) A m out, tr N n [] (b :: rest) B m out with | some A', some B' => some (.cond (sb m c) A' B') | _, _ => none) else none
      | .join S (.cond _ A B) K => if okX m c = true then (match tr N n [] [a] A m { out with nx := S }, tr N n [] [b] B m { out with nx := S }, tr N n [] rest K (enumM S 0) out with
        | some A', some B', some K' => some (.join S (.cond (sb m c) A' B') K') | _, _, _ => none) else none
      | _ => none
    | .block id a => match h with
      | .join S (.block _ A) K => (match tr N n [] [a] A m { out with nx := S, ex := (id, S) :: out.ex }, tr N n [] rest K (enumM S 0) out with
        | some A', some K' => some (.join S (.block id A') K') | _, _ => none)
      | _ => none
    | .loop live b => match h with
      | .loop _ B => (match selX m ((List.range N).filter live.contains), tr N n [] [b] B (enumM ((List.range N).filter live.contains) 0) { out with nx := (List.range N).filter live.contains } with
        | some L, some B' => some (.loop L B') | _, _ => none)
      | _ => none
    | .exit id => match lkE out.ex id with | some S => (match selX m S with | some L => some (.exit id L) | none => none) | none => none
    | .ret => match selX m out.rt with | some L => some (.ret L) | none => none
  | _ + 1, [], [], _, m, out => match selX m out.nx with | some L => some (.nx L) | none => none

def evCs (call : Nat → List PV → Hp → Option (PV × Hp)) (k : Nat) : List CC → List PV → Hp → Res
  | [], tm, H => some (.nx, tm, H)
  | c :: r, tm, H => match evC call k c tm H with
    | some (.nx, tm', H') => evCs call k r tm' H'
    | x => x
def evA (call : Nat → List PV → Hp → Option (PV × Hp)) (k : Nat) (ops : List CO) (rest : List CC) (tm : List PV) (H : Hp) : Res :=
  match evOs call ops tm H with | some (tm', H') => evCs call k rest tm' H' | none => none

theorem selX_ev {N : Nat} {m : Mp} {tm env : List PV} (h : Rel N m tm env) {S : List Nat} {L : List X} (hs : selX m S = some L) : L.map (X.ev env) = S.map fun s => tm.getD s .bot := by
  unfold selX at hs
  split at hs
  · rename_i ha
    cases hs
    rw [List.map_map]
    refine List.map_congr_left fun s hm => ?_
    have := h.ev (List.all_eq_true.1 ha s hm)
    exact this.symm
  · cases hs
theorem wantP_of {N : Nat} {m : Mp} {tm env : List PV} (h : Rel N m tm env) {g g' : Option (Nat × Bool)} (hg : gOf m g = some g') : wantP tm g = wantP env g' := by
  cases g with
  | none => simp only [gOf, Option.some.injEq] at hg; subst hg; rfl
  | some x =>
    obtain ⟨t, b⟩ := x
    simp only [gOf] at hg
    split at hg
    · rename_i i hi
      cases hg
      have := h.at_ t _ hi
      simp only [wantP, this, X.ev]
    · cases hg

/-! Heads of loops -/
inductive Sh (live : List Nat) : Nat → List PV → List PV → Prop
  | nil (i : Nat) : Sh live i [] []
  | dead {i : Nat} {r s : List PV} (h : live.contains i = false) (hr : Sh live (i + 1) r s) : Sh live i (.bot :: r) s
  | here {i : Nat} {p : PV} {r s : List PV} (h : live.contains i = true) (hr : Sh live (i + 1) r s) : Sh live i (p :: r) (p :: s)
theorem sh_mask {live : List Nat} : ∀ (tm : List PV) (i : Nat), Sh live i (maskT live i tm) (((List.range' i tm.length).filter live.contains).map fun s => tm.getD (s - i) .bot)
  | [], i => .nil i
  | p :: r, i => by
    have hr := sh_mask (live := live) r (i + 1)
    have e : ((List.range' (i + 1) r.length).filter live.contains).map (fun s => (p :: r).getD (s - i) .bot) = ((List.range' (i + 1) r.length).filter live.contains).map fun s => r.getD (s - (i + 1)) .bot := by
      refine List.map_congr_left fun s hs => ?_
      have := (List.mem_range'_1.1 (List.mem_filter.1 hs).1).1
      rw [show s - i = (s - (i + 1)) + 1 by omega]
      rfl
    simp only [maskT, List.length_cons, List.range'_succ, List.filter_cons]
    by_cases h : live.contains i = true
    · rw [if_pos h, if_pos h, List.map_cons, e, Nat.sub_self]
      exact .here h hr
    · rw [if_neg h, if_neg h, e]
      exact .dead (by simpa using h) hr
theorem Sh.nilTs {live : List Nat} {i : Nat} {f s : List PV} (h : Sh live i f s) : ∀ H, (nilTs f H).2 = (nilTs s H).2 ∧ Sh live i (nilTs f H).1 (nilTs s H).1 := by
  induction h with
  | nil i => exact fun H => ⟨rfl, .nil i⟩
  | dead h hr ih => exact fun H => ⟨(ih H).1, .dead h (ih H).2⟩
  | @here i p r s h hr ih =>
    intro H
    have other : (∀ H, Ev.nilTs (p :: r) H = (p :: (Ev.nilTs r H).1, (Ev.nilTs r H).2)) → (∀ H, Ev.nilTs (p :: s) H = (p :: (Ev.nilTs s H).1, (Ev.nilTs s H).2)) → (Ev.nilTs (p :: r) H).2 = (Ev.nilTs (p :: s) H).2 ∧ Sh live i (Ev.nilTs (p :: r) H).1 (Ev.nilTs (p :: s) H).1 := fun e1 e2 => by
      rw [e1, e2]; exact ⟨(ih H).1, .here h (ih H).2⟩
    cases p with
    | sl t sz n cs =>
      cases t with
      | nil => exact ⟨(ih _).1, .here h (ih _).2⟩
      | no => exact other (fun _ => rfl) (fun _ => rfl)
      | tok k => exact other (fun _ => rfl) (fun _ => rfl)
    | _ => exact other (fun _ => rfl) (fun _ => rfl)
theorem Sh.toks {live : List Nat} {i : Nat} {f s : List PV} (h : Sh live i f s) : PV.toksL f = PV.toksL s := by
  induction h with
  | nil i => rfl
  | dead h hr ih => simp only [PV.toksL, PV.toks, List.nil_append]; exact ih
  | here h hr ih => simp only [PV.toksL]; rw [ih]
theorem Sh.rens {live : List Nat} (ρ : Nat → Option Nat) {i : Nat} {f s : List PV} (h : Sh live i f s) : Sh live i (PV.rens ρ f) (PV.rens ρ s) := by
  induction h with
  | nil i => simp only [PV.rens]; exact .nil i
  | dead h hr ih => simp only [PV.rens, PV.ren]; exact .dead h ih
  | here h hr ih => simp only [PV.rens]; exact .here h ih
theorem Sh.sel {live : List Nat} {i : Nat} {f s : List PV} (h : Sh live i f s) : s = ((List.range' i f.length).filter live.contains).map fun t => f.getD (t - i) .bot := by
  have e : ∀ (p : PV) (r : List PV) (i : Nat), ((List.range' (i + 1) r.length).filter live.contains).map (fun s => (p :: r).getD (s - i) .bot) = ((List.range' (i + 1) r.length).filter live.contains).map fun s => r.getD (s - (i + 1)) .bot := fun p r i => by
    refine List.map_congr_left fun s hs => ?_
    have := (List.mem_range'_1.1 (List.mem_filter.1 hs).1).1
    rw [show s - i = (s - (i + 1)) + 1 by omega]
    rfl
  induction h with
  | nil i => rfl
  | dead h hr ih =>
    simp only [List.length_cons, List.range'_succ, List.filter_cons, h, Bool.false_eq_true, if_false]
    rw [e]; exact ih
  | here h hr ih =>
    simp only [List.length_cons, List.range'_succ, List.filter_cons, h, if_true, List.map_cons, Nat.sub_self]
    rw [e, ← ih]; rfl
theorem used_of_toks {n : Nat} {H : Hp} {ps qs : List PV} (h : PV.toksL ps = PV.toksL qs) : used n ps H = used n qs H := by unfold used; rw [h]
theorem rens_length (ρ : Nat → Option Nat) : ∀ ps : List PV, (PV.rens ρ ps).length = ps.length
  | [] => rfl
  | p :: r => by simp only [PV.rens, List.length_cons, rens_length ρ r]
theorem maskT_length (live : List Nat) : ∀ (i : Nat) (ps : List PV), (maskT live i ps).length = ps.length
  | _, [] => rfl
  | i, p :: r => by simp only [maskT, List.length_cons, maskT_length live (i + 1) r]
theorem head_sel {N : Nat} (n : Nat) (live : List Nat) (tm : List PV) (H : Hp) (hl : tm.length = N) :
    (head n live tm H).2 = (headS n (((List.range N).filter live.contains).map fun s => tm.getD s .bot) H).2 ∧ (head n live tm H).1.length = N ∧
    (headS n (((List.range N).filter live.contains).map fun s => tm.getD s .bot) H).1 = ((List.range N).filter live.contains).map fun s => (head n live tm H).1.getD s .bot := by
  have h0 := sh_mask (live := live) tm 0
  rw [← List.range_eq_range', hl] at h0
  simp only [Nat.sub_zero] at h0
  obtain ⟨h1, h2⟩ := h0.nilTs H
  have hlen : (nilTs (maskT live 0 tm) H).1.length = N := by rw [nilTs_length, maskT_length, hl]
  have hu : used n (nilTs (maskT live 0 tm) H).1 (nilObs n (nilTs (maskT live 0 tm) H).2) = used n (nilTs (((List.range N).filter live.contains).map fun s => tm.getD s .bot) H).1 (nilObs n (nilTs (((List.range N).filter live.contains).map fun s => tm.getD s .bot) H).2) := by
    rw [← h1]; exact used_of_toks h2.toks
  have h3 := h2.rens (renOf n (nilObs n (nilTs (maskT live 0 tm) H).2) (used n (nilTs (maskT live 0 tm) H).1 (nilObs n (nilTs (maskT live 0 tm) H).2)))
  have h4 := h3.sel
  rw [rens_length, hlen, ← List.range_eq_range'] at h4
  simp only [Nat.sub_zero] at h4
  unfold head headS compact
  simp only
  rw [← hu, ← h1]
  exact ⟨rfl, by rw [rens_length, hlen], h4⟩

theorem evCs_one {call : Nat → List PV → Hp → Option (PV × Hp)} {k : Nat} (c : CC) (tm : List PV) (H : Hp) : evCs call k [c] tm H = evC call k c tm H := by
  simp only [evCs]
  split
  · rename_i h; rw [h]
  · rfl
theorem evA_nil {call : Nat → List PV → Hp → Option (PV × Hp)} {k : Nat} (rest : List CC) (tm : List PV) (H : Hp) : evA call k [] rest tm H = evCs call k rest tm H := rfl

theorem getD_put {tm : List PV} {d : Option Nat} {v : PV} {s : Nat} (h : d ≠ some s) : (putP tm d v).getD s .bot = tm.getD s .bot := by
  cases d with
  | none => rfl
  | some d =>
    show (tm.set d v).getD s .bot = _
    rw [List.getD_eq_getElem?_getD, List.getD_eq_getElem?_getD, List.getElem?_set_ne (fun e => h (by rw [e]))]
theorem put_length (tm : List PV) (d : Option Nat) (v : PV) : (putP tm d v).length = tm.length := by
  cases d with
  | none => rfl
  | some d => exact List.length_set ..
theorem evO_shape {call : Nat → List PV → Hp → Option (PV × Hp)} {o : CO} {tm tm' : List PV} {H H' : Hp} (h : evO call o tm H = some (tm', H')) : ∃ v, tm' = putP tm o.dst v := by
  unfold evO at h
  split at h
  · split at h
    · cases h; exact ⟨_, rfl⟩
    · cases h
  · cases h; exact ⟨_, rfl⟩
  · cases h
theorem evOs_frame {call : Nat → List PV → Hp → Option (PV × Hp)} : ∀ (l : List CO) {tm tm' : List PV} {H H' : Hp}, evOs call l tm H = some (tm', H') → tm'.length = tm.length ∧ ∀ s, s ∉ dsts l → tm'.getD s .bot = tm.getD s .bot
  | [], tm, tm', H, H', h => by simp only [evOs, Option.some.injEq, Prod.mk.injEq] at h; obtain ⟨rfl, rfl⟩ := h; exact ⟨rfl, fun _ _ => rfl⟩
  | o :: r, tm, tm', H, H', h => by
    simp only [evOs] at h
    split at h
    · rename_i tm1 H1 h1
      obtain ⟨v, rfl⟩ := evO_shape h1
      obtain ⟨h2, h3⟩ := evOs_frame r h
      refine ⟨by rw [h2, put_length], fun s hs => ?_⟩
      unfold dsts at hs h3
      rw [List.filterMap_cons] at hs
      cases hd : o.dst with
      | none => rw [hd] at hs; rw [h3 s hs]; exact getD_put (by rw [hd]; intro h; cases h)
      | some d =>
        rw [hd] at hs
        simp only [List.mem_cons, not_or] at hs
        rw [h3 s hs.2]
        exact getD_put (by rw [hd]; intro h; exact hs.1 (Option.some.inj h).symm)
    · cases h
theorem strip_evOs {call : Nat → List PV → Hp → Option (PV × Hp)} {t : Nat} {b : Bool} : ∀ (l : List CO) (ds : List Nat), grpOk t b ds l = true → ∀ {tm : List PV} (H : Hp), tm.getD t .bot = .bool b → evOs call (l.map (strip t b)) tm H = evOs call l tm H
  | [], _, _, _, _, _ => rfl
  | o :: r, ds, hg, tm, H, ht => by
    unfold grpOk at hg
    simp only [Bool.and_eq_true, decide_eq_true_eq] at hg
    obtain ⟨⟨_, hdt⟩, hr⟩ := hg
    have hr' : ∃ ds', grpOk t b ds' r = true := by
      split at hr
      · exact ⟨_, hr⟩
      · exact ⟨_, hr⟩
    obtain ⟨ds', hr'⟩ := hr'
    have e1 : evO call (strip t b o) tm H = evO call o tm H := by
      unfold evO strip
      by_cases hs : o.g = some (t, b)
      · rw [if_pos hs, hs]
        have : wantP tm (some (t, b)) = some true := by simp only [wantP, ht, beq_self_eq_true]
        rw [this]; rfl
      · rw [if_neg hs]
    simp only [List.map_cons, evOs, e1]
    split
    · rename_i tm1 H1 h1
      obtain ⟨v, rfl⟩ := evO_shape h1
      exact strip_evOs r ds' hr' H1 (by rw [getD_put hdt]; exact ht)
    · rfl
theorem skip_evOs {call : Nat → List PV → Hp → Option (PV × Hp)} {t : Nat} {b : Bool} : ∀ (l : List CO) (ds : List Nat), grpOk t b ds l = true → ∀ {tm : List PV} (H : Hp), tm.getD t .bot = .bool (!b) → (∀ d ∈ ds, d < tm.length → tm.getD d .bot = .und) → (∀ d ∈ ds, d < tm.length) → (∀ d ∈ dsts l, d < tm.length) →
    ∃ tm', evOs call l tm H = some (tm', H)
  | [], _, _, tm, H, _, _, _, _ => ⟨tm, rfl⟩
  | o :: r, ds, hg, tm, H, ht, hds, hlt, hl => by
    unfold grpOk at hg
    simp only [Bool.and_eq_true, decide_eq_true_eq] at hg
    obtain ⟨⟨h0, hdt⟩, hr⟩ := hg
    have e1 : evO call o tm H = some (putP tm o.dst .und, H) := by
      unfold evO
      split at h0
      · rename_i s b' hgo
        rw [hgo]
        have : wantP tm (some (s, b')) = some false := by
          simp only [Bool.or_eq_true, Bool.and_eq_true, decide_eq_true_eq, beq_iff_eq] at h0
          rcases h0 with ⟨rfl, rfl⟩ | h0
          · simp only [wantP, ht]; cases b' <;> rfl
          · have hm : s ∈ ds := by simpa using h0
            simp only [wantP, hds s hm (hlt s hm)]
        rw [this]
      · cases h0
    simp only [evOs, e1]
    have ht' : (putP tm o.dst .und).getD t .bot = .bool (!b) := by rw [getD_put hdt]; exact ht
    cases hd : o.dst with
    | none =>
      rw [hd] at hr
      exact skip_evOs r ds hr H ht hds hlt (fun d hm => hl d (by unfold dsts; rw [List.filterMap_cons, hd]; exact hm))
    | some d =>
      rw [hd] at hr ht'
      have hdl : d < tm.length := hl d (by unfold dsts; rw [List.filterMap_cons, hd]; simp)
      have hin : ∀ s, (tm.set d .und).getD s .bot = if d = s then .und else tm.getD s .bot := fun s => getD_set tm d s .und hdl
      refine skip_evOs r (d :: ds) hr (tm := tm.set d .und) H ht' (fun s hs hsl => ?_) (fun s hs => ?_) (fun s hs => ?_)
      · rw [hin]
        split
        · rfl
        · rename_i hne
          rcases List.mem_cons.1 hs with rfl | hs
          · exact absurd rfl hne
          · exact hds s hs (hlt s hs)
      · rw [List.length_set]
        rcases List.mem_cons.1 hs with rfl | hs
        · exact hdl
        · exact hlt s hs
      · rw [List.length_set]
        exact hl s (by unfold dsts at hs ⊢; rw [List.filterMap_cons, hd]; exact List.mem_cons_of_mem _ hs)
theorem evOs_app {call : Nat → List PV → Hp → Option (PV × Hp)} : ∀ (a b : List CO) (tm : List PV) (H : Hp), evOs call (a ++ b) tm H = match evOs call a tm H with | some (tm', H') => evOs call b tm' H' | none => none
  | [], b, tm, H => rfl
  | o :: a, b, tm, H => by
    simp only [List.cons_append, evOs]
    split
    · exact evOs_app a b _ _
    · rfl
theorem Rel.less {N : Nat} {m : Mp} {tm tm' env : List PV} {ds : List Nat} (h : Rel N m tm env) (hl : tm'.length = tm.length) (hf : ∀ s, s ∉ ds → tm'.getD s .bot = tm.getD s .bot) : Rel N (less m ds) tm' env :=
  ⟨by rw [hl]; exact h.len, fun s x hx => by
    obtain ⟨h1, h2⟩ := lk_less hx
    rw [hf s h2]; exact h.at_ s x h1⟩
theorem notIn_ev {tm tm' : List PV} {ds : List Nat} {y : X} (h : notIn ds y = true) (hf : ∀ s, s ∉ ds → tm'.getD s .bot = tm.getD s .bot) : y.ev tm' = y.ev tm := by
  cases y with
  | c v => rfl
  | t s => exact hf s (by simpa [notIn] using h)

/-- Where a tree ends: the bodies end so too, and what is handed on is what the slots hold. -/
def Good (N : Nat) (out : Outs) (fl : Fl) (e tm' : List PV) : Prop := tm'.length = N ∧ ∃ S, out.sel fl = some S ∧ e = S.map fun s => tm'.getD s .bot

section
variable {callL callC : Nat → List PV → Hp → Option (PV × Hp)} (hc : ∀ f a H r, callL f a H = some r → callC f a H = some r)
include hc

theorem tr_ok {N k : Nat} : ∀ (n : Nat) (ops : List CO) (rest : List CC) (h : LC) (m : Mp) (out : Outs) (lc : LC), tr N n ops rest h m out = some lc →
    ∀ {tm env : List PV} {H : Hp}, Rel N m tm env → ∀ {fl : Fl} {e : List PV} {H' : Hp}, evL callL k lc env H = some (fl, e, H') →
      ∃ tm', evA callC k ops rest tm H = some (fl, tm', H') ∧ Good N out fl e tm' := by
  intro n
  induction n with
  | zero => intro ops rest h m out lc ht; simp [tr] at ht
  | succ n ih =>
    intro ops rest h m out lc ht tm env H hR fl e H' he
    cases ops with
    | cons o ops =>
      simp only [tr] at ht
      split at ht
      · rename_i d x hmv
        obtain rfl := isMv_eq hmv
        split at ht
        · rename_i hd
          exact ih ops rest h _ out lc ht (hR.set hd.1 (hR.ev hd.2).symm) he
        · cases ht
      · split at ht
        · rename_i l b A K hsel
          split at ht
          · rename_i d t s y ops' hp
            split at ht
            · rename_i hd
              obtain ⟨hdN, hg, hot, hoy, hny, hdl⟩ := hd
              split at ht
              · rename_i A' K' hA hK
                cases ht
                obtain ⟨x', y', hdrop, hs, hy⟩ := pickOf_eq hp
                have hlt : ∀ s ∈ dsts ((o :: ops).take l), s < tm.length := fun s hs => by rw [hR.len]; exact of_decide_eq_true (List.all_eq_true.1 hdl s hs)
                have hsplit : ∀ tm H, evA callC k (o :: ops) rest tm H = match evOs callC ((o :: ops).take l) tm H with | some (tm1, H1) => (match evO callC ⟨some d, .pick (.t t) x' y', none⟩ tm1 H1 with | some (tm2, H2) => evA callC k ops' rest tm2 H2 | none => none) | none => none := fun tm H => by
                  have : o :: ops = (o :: ops).take l ++ (⟨some d, .pick (.t t) x' y', none⟩ :: ops') := by rw [← hdrop, List.take_append_drop]
                  unfold evA
                  conv => lhs; rw [this, evOs_app]
                  cases evOs callC ((o :: ops).take l) tm H with
                  | none => rfl
                  | some z =>
                    obtain ⟨tm1, H1⟩ := z
                    simp only [evOs]
                    cases evO callC ⟨some d, .pick (.t t) x' y', none⟩ tm1 H1 with
                    | none => rfl
                    | some z => rfl
                have htd : t ∉ dsts ((o :: ops).take l) := by
                  have : ∀ (q : List CO) (ds : List Nat), grpOk t b ds q = true → t ∉ dsts q := by
                    intro q
                    induction q with
                    | nil => intro ds _ hm; cases hm
                    | cons a q ihq =>
                      intro ds hg hm
                      unfold grpOk at hg
                      simp only [Bool.and_eq_true, decide_eq_true_eq] at hg
                      obtain ⟨⟨_, h1⟩, h2⟩ := hg
                      unfold dsts at hm
                      rw [List.filterMap_cons] at hm
                      cases hd : a.dst with
                      | none => rw [hd] at hm h2; exact ihq ds h2 hm
                      | some j =>
                        rw [hd] at hm h2 h1
                        rcases List.mem_cons.1 hm with rfl | hm
                        · exact h1 rfl
                        · exact ihq _ h2 hm
                  exact this _ _ hg
                have htv := hR.ev hot
                have hyv := hR.ev hoy
                simp only [evL] at he
                split at he
                · rename_i tt htt
                  rw [htt] at htv
                  have htv' : tm.getD t .bot = .bool tt := htv
                  split at he
                  · rename_i htb
                    subst htb
                    split at he
                    · rename_i v H1 h1
                      obtain ⟨tm1, h2, h3, S, h4, h5⟩ := ih _ [] A m _ A' hA hR h1
                      cases h4
                      have h2' : evOs callC (((o :: ops).take l).map (strip t tt)) tm H = some (tm1, H1) := by
                        unfold evA at h2
                        split at h2
                        · rename_i z1 z2 hz
                          simp only [evCs, Option.some.injEq, Prod.mk.injEq, true_and] at h2
                          obtain ⟨rfl, rfl⟩ := h2
                          exact hz
                        · cases h2
                      rw [strip_evOs _ _ hg H htv'] at h2'
                      obtain ⟨hlen, hfr⟩ := evOs_frame _ h2'
                      simp only [List.map_cons, List.map_nil, List.cons.injEq, and_true] at h5
                      have hR1 : Rel N ((d, .t 0) :: upM (less m (dsts ((o :: ops).take l)))) (tm1.set d v) (v :: env) := ((hR.less hlen hfr).up v).set hdN rfl
                      obtain ⟨tm', h6, h7⟩ := ih ops' rest K _ out K' hK hR1 he
                      refine ⟨tm', ?_, h7⟩
                      rw [hsplit, h2']
                      have hpk : evO callC ⟨some d, .pick (.t t) x' y', none⟩ tm1 H1 = some (tm1.set d v, H1) := by
                        have h8 : X.ev tm1 (.t t) = .bool tt := by show tm1.getD t .bot = _; rw [hfr t htd]; exact htv'
                        have h9 : (if tt = true then X.ev tm1 x' else X.ev tm1 y') = v := by
                          have : (if tt = true then X.ev tm1 x' else X.ev tm1 y') = X.ev tm1 (if tt = true then x' else y') := by split <;> rfl
                          rw [this, hs]; exact h5.symm
                        simp only [evO, wantP, evalOp, h8, h9, putP]
                      simp only [hpk]
                      exact h6
                    · cases he
                  · rename_i htb
                    have hnb : tt = !b := by cases tt <;> cases b <;> simp_all
                    subst hnb
                    obtain ⟨tm1, h2⟩ := skip_evOs (call := callC) _ _ hg H htv' (fun d hm => by cases hm) (fun d hm => by cases hm) hlt
                    obtain ⟨hlen, hfr⟩ := evOs_frame _ h2
                    have hR1 : Rel N ((d, .t 0) :: upM (less m (dsts ((o :: ops).take l)))) (tm1.set d ((sb m y).ev env)) ((sb m y).ev env :: env) := ((hR.less hlen hfr).up _).set hdN rfl
                    obtain ⟨tm', h6, h7⟩ := ih ops' rest K _ out K' hK hR1 he
                    refine ⟨tm', ?_, h7⟩
                    rw [hsplit, h2]
                    have hpk : evO callC ⟨some d, .pick (.t t) x' y', none⟩ tm1 H = some (tm1.set d ((sb m y).ev env), H) := by
                      have h8 : X.ev tm1 (.t t) = .bool (!b) := by show tm1.getD t .bot = _; rw [hfr t htd]; exact htv'
                      have h9 : (if (!b) = true then X.ev tm1 x' else X.ev tm1 y') = (sb m y).ev env := by
                        have : (if (!b) = true then X.ev tm1 x' else X.ev tm1 y') = X.ev tm1 (if b = true then y' else x') := by cases b <;> rfl
                        rw [this, hy, notIn_ev hny hfr]; exact hyv
                      simp only [evO, wantP, evalOp, h8, h9, putP]
                    simp only [hpk]
                    exact h6
                · cases he
              · cases ht
            · cases ht
          · cases ht
        · split at ht
          · rename_i h0
            split at ht
            · rename_i hd
              split at ht
              · rename_i g' r hg hr
                cases ht
                have hx : ∀ x ∈ o.op.xs, x.ev tm = (sb m x).ev env := fun x hx => hR.ev (List.all_eq_true.1 hd.2 x hx)
                have hdd : ∀ j, o.dst = some j → j < N := fun j hj => by
                  have := hd.1
                  rw [hj] at this
                  exact of_decide_eq_true this
                simp only [evL] at he
                split at he
                · rename_i hw
                  split at he
                  · rename_i v H1 hv
                    obtain ⟨tm', h1, h2⟩ := ih ops rest _ _ out r hr (hR.put o.dst hdd v) he
                    refine ⟨tm', ?_, h2⟩
                    rw [← h1]
                    have e1 : evO callC o tm H = some (putP tm o.dst v, H1) := by
                      unfold evO
                      rw [wantP_of hR hg, hw, evalOp_mapX H hx, evalOp_mono hc hv]
                    simp only [evA, evOs, e1]
                  · cases he
                · rename_i hw
                  obtain ⟨tm', h1, h2⟩ := ih ops rest _ _ out r hr (hR.put o.dst hdd .und) he
                  refine ⟨tm', ?_, h2⟩
                  rw [← h1]
                  have e1 : evO callC o tm H = some (putP tm o.dst .und, H) := by
                    unfold evO
                    rw [wantP_of hR hg, hw]
                  simp only [evA, evOs, e1]
                · cases he
              · cases ht
            · cases ht
          · cases ht
    | nil =>
      cases rest with
      | nil =>
        simp only [tr] at ht
        split at ht
        · rename_i L hL
          cases ht
          simp only [evL, Option.some.injEq, Prod.mk.injEq] at he
          obtain ⟨rfl, rfl, rfl⟩ := he
          exact ⟨tm, rfl, hR.len, _, rfl, selX_ev hR hL⟩
        · cases ht
      | cons c rest =>
        -- what is run ahead of the rest
        have joined : ∀ {S : List Nat} {A K' : LC} {out1 : Outs} {K : LC}, (∀ {fl e H'}, evL callL k A env H = some (fl, e, H') → ∃ tm1, evC callC k c tm H = some (fl, tm1, H') ∧ Good N { out with nx := S } fl e tm1) →
            tr N n [] rest K (enumM S 0) out = some K' → evL callL k (.join S A K') env H = some (fl, e, H') → ∃ tm', evA callC k [] (c :: rest) tm H = some (fl, tm', H') ∧ Good N out fl e tm' := fun {S A K' out1 K} hA hK he => by
          simp only [evL] at he
          split at he
          · rename_i e1 H1 h1
            obtain ⟨tm1, h2, h3, S', h4, h5⟩ := hA h1
            cases h4
            subst h5
            obtain ⟨tm', h6, h7⟩ := ih [] rest K _ out K' hK (Rel.enum _ h3) he
            refine ⟨tm', ?_, h7⟩
            rw [← h6]
            simp only [evA, evOs, evCs, h2]
          · rename_i hne
            obtain ⟨tm1, h2, h3, S', h4, h5⟩ := hA he
            refine ⟨tm1, ?_, h3, S', ?_, h5⟩
            · simp only [evA, evOs, evCs, h2]
              split
              · rename_i h8; cases h8; exact absurd he (hne _ _)
              · rfl
            · cases fl with
              | nx => exact absurd he (hne _ _)
              | ex i => exact h4
              | rt => exact h4
        cases c with
        | skip => simp only [tr] at ht; exact ih [] rest h m out lc ht hR he
        | reg l =>
          simp only [tr] at ht
          obtain ⟨tm', h1, h2⟩ := ih l rest h m out lc ht hR he
          refine ⟨tm', ?_, h2⟩
          rw [← h1]
          simp only [evA, evOs, evCs, evC]
          cases evOs callC l tm H with
          | none => rfl
          | some x => rfl
        | seq a b =>
          simp only [tr] at ht
          obtain ⟨tm', h1, h2⟩ := ih [] (a :: b :: rest) h m out lc ht hR he
          refine ⟨tm', ?_, h2⟩
          rw [← h1]
          simp only [evA, evOs, evCs, evC]
          cases evC callC k a tm H with
          | none => rfl
          | some x => obtain ⟨f, t, H1⟩ := x; cases f <;> rfl
        | cond c a b =>
          simp only [tr] at ht
          split at ht
          · rename_i c0 A B
            split at ht
            · rename_i hcx
              split at ht
              · rename_i A' B' hA hB
                cases ht
                simp only [evL] at he
                have hcv := hR.ev hcx
                split at he
                · rename_i t htv
                  rw [htv] at hcv
                  split at he
                  · rename_i htt
                    obtain ⟨tm', h1, h2⟩ := ih [] (a :: rest) A m out A' hA hR he
                    refine ⟨tm', ?_, h2⟩
                    rw [← h1]
                    simp only [evA, evOs, evCs, evC, hcv, htt, if_true]
                  · rename_i htt
                    obtain ⟨tm', h1, h2⟩ := ih [] (b :: rest) B m out B' hB hR he
                    refine ⟨tm', ?_, h2⟩
                    rw [← h1]
                    simp only [evA, evOs, evCs, evC, hcv, htt, Bool.false_eq_true, if_false]
                · cases he
              · cases ht
            · cases ht
          · rename_i S c0 A B K
            split at ht
            · rename_i hcx
              split at ht
              · rename_i A' B' K' hA hB hK
                cases ht
                refine joined (out1 := out) (K := K) (fun {fl e H'} he => ?_) hK he
                simp only [evL] at he
                have hcv := hR.ev hcx
                split at he
                · rename_i t htv
                  rw [htv] at hcv
                  split at he
                  · rename_i htt
                    obtain ⟨tm', h1, h2⟩ := ih [] [a] A m _ A' hA hR he
                    refine ⟨tm', ?_, h2⟩
                    rw [← h1, evA_nil, evCs_one]
                    simp only [evC, hcv, htt, if_true]
                  · rename_i htt
                    obtain ⟨tm', h1, h2⟩ := ih [] [b] B m _ B' hB hR he
                    refine ⟨tm', ?_, h2⟩
                    rw [← h1, evA_nil, evCs_one]
                    simp only [evC, hcv, htt, Bool.false_eq_true, if_false]
                · cases he
              · cases ht
            · cases ht
          · cases ht
        | block id a =>
          simp only [tr] at ht
          split at ht
          · rename_i S id0 A K
            split at ht
            · rename_i A' K' hA hK
              cases ht
              refine joined (out1 := out) (K := K) (fun {fl e H'} he => ?_) hK he
              simp only [evL] at he
              split at he
              · rename_i i e1 H1 h1
                obtain ⟨tm', h2, h3, S', h4, h5⟩ := ih [] [a] A m _ A' hA hR h1
                rw [evA_nil, evCs_one] at h2
                refine ⟨tm', ?_, h3, S', ?_, ?_⟩
                · simp only [evC, h2]
                  split at he
                  · rename_i hi; cases he; rw [if_pos hi]
                  · rename_i hi; cases he; rw [if_neg hi]
                · simp only [Outs.sel, lkE] at h4
                  split at he
                  · rename_i hi
                    cases he
                    rw [if_pos hi.symm] at h4
                    exact h4
                  · rename_i hi
                    cases he
                    rw [if_neg (fun hh => hi hh.symm)] at h4
                    exact h4
                · split at he <;> cases he <;> exact h5
              · rename_i hne
                obtain ⟨tm', h2, h3, S', h4, h5⟩ := ih [] [a] A m _ A' hA hR he
                rw [evA_nil, evCs_one] at h2
                refine ⟨tm', ?_, h3, S', ?_, h5⟩
                · simp only [evC, h2]
                  split
                  · rename_i h8; cases h8; exact absurd he (hne _ _ _)
                  · rfl
                · cases fl with
                  | nx => exact h4
                  | ex i => exact absurd he (hne _ _ _)
                  | rt => exact h4
            · cases ht
          · cases ht
        | loop live b =>
          simp only [tr] at ht
          split at ht
          · rename_i L0 B
            split at ht
            · rename_i L B' hL hB
              cases ht
              simp only [evL] at he
              rw [selX_ev hR hL] at he
              have key : ∀ (j : Nat) {tm : List PV} {H1 : Hp}, tm.length = N → loopL H.length (evL callL k B') j (((List.range N).filter live.contains).map fun s => tm.getD s .bot) H1 = some (fl, e, H') →
                  ∃ tm', loopGo H.length live (evC callC k b) j tm H1 = some (fl, tm', H') ∧ fl ≠ .nx ∧ Good N out fl e tm' := by
                intro j
                induction j with
                | zero => intro tm H1 _ he; simp [loopL] at he
                | succ j ihj =>
                  intro tm H1 hl he
                  obtain ⟨h1, h2, h3⟩ := head_sel H.length live tm H1 hl
                  simp only [loopL] at he
                  rw [h3, ← h1] at he
                  split at he
                  · rename_i e1 H2 h4
                    obtain ⟨tm1, h5, h6, S', h7, h8⟩ := ih [] [b] B _ _ B' hB (Rel.enum _ h2) h4
                    rw [evA_nil, evCs_one] at h5
                    cases h7
                    subst h8
                    obtain ⟨tm', h9, h10⟩ := ihj h6 he
                    exact ⟨tm', by simp only [loopGo, h5]; exact h9, h10⟩
                  · rename_i hne
                    obtain ⟨tm1, h5, h6, S', h7, h8⟩ := ih [] [b] B _ _ B' hB (Rel.enum _ h2) he
                    rw [evA_nil, evCs_one] at h5
                    refine ⟨tm1, ?_, fun hf => ?_, h6, S', ?_, h8⟩
                    · simp only [loopGo, h5]
                      split
                      · rename_i h9; cases h9; exact absurd he (hne _ _)
                      · rfl
                    · subst hf; exact hne _ _ he
                    · cases fl with
                      | nx => exact absurd he (hne _ _)
                      | ex i => exact h7
                      | rt => exact h7
              obtain ⟨tm', h1, h2, h3⟩ := key k hR.len he
              refine ⟨tm', ?_, h3⟩
              simp only [evA, evOs, evCs, evC, h1]
              split
              · rename_i h4; cases h4; exact absurd rfl h2
              · rfl
            · cases ht
          · cases ht
        | exit id =>
          simp only [tr] at ht
          split at ht
          · rename_i S hS
            split at ht
            · rename_i L hL
              cases ht
              simp only [evL, Option.some.injEq, Prod.mk.injEq] at he
              obtain ⟨rfl, rfl, rfl⟩ := he
              exact ⟨tm, rfl, hR.len, S, hS, selX_ev hR hL⟩
            · cases ht
          · cases ht
        | ret =>
          simp only [tr] at ht
          split at ht
          · rename_i L hL
            cases ht
            simp only [evL, Option.some.injEq, Prod.mk.injEq] at he
            obtain ⟨rfl, rfl, rfl⟩ := he
            exact ⟨tm, rfl, hR.len, _, rfl, selX_ev hR hL⟩
          · cases ht
end

/-! ### Functions -/
structure LF where
  n : Nat
  np : Nat
  us : List Nat
  res : List CR
  body : LC
  pub : Bool
  deriving Inhabited
/-- The slots that results are read from, in order; the results over them. -/
def CR.slot : CR → Nat
  | .t n => n
  | .cell n _ _ => n
def numR : Nat → List CR → List CR
  | _, [] => []
  | i, .t _ :: r => .t i :: numR (i + 1) r
  | i, .cell _ a s :: r => .cell i a s :: numR (i + 1) r
def LF.m0 (np : Nat) (us : List Nat) : Mp := enumM (List.range np) 0 ++ us.map fun s => (s, .c .und)
/-- A function's tree out of its body. -/
def trF (us : List Nat) (hint : LC) (F : CF) (np fuel : Nat) : Option LF :=
  if np ≤ F.ntmps ∧ (us.all fun s => decide (np ≤ s ∧ s < F.ntmps)) = true ∧ (F.res.all fun r => decide (r.slot < F.ntmps)) = true then
    match tr F.ntmps fuel [] [F.body] hint (LF.m0 np us) ⟨F.res.map CR.slot, [], F.res.map CR.slot⟩ with
    | some lc => some ⟨F.ntmps, np, us, numR 0 F.res, lc, F.pub⟩
    | none => none
  else none
def evFL (lt : Nat → Option LF) (ov : Ov) : Nat → Nat → List PV → Hp → Option (PV × Hp)
  | 0, _, _, _ => none
  | k + 1, f, args, H => match ov f with
    | some φ => φ args H
    | none => match lt f with
      | none => none
      | some F => if args.length = F.np then (match evL (evFL lt ov k) k F.body args H with
        | some (.ex _, _, _) => none
        | some (_, e, H') => (match evR e H' F.res with | some l => evEnd F.pub H.length (one? l) H' | none => none)
        | none => none) else none
def LtOk (ct : Nat → Option CF) (lt : Nat → Option LF) : Prop := ∀ f F, lt f = some F → ∃ C us hint np fuel, ct f = some C ∧ trF us hint C np fuel = some F

theorem evR_num {tm : List PV} {H : Hp} : ∀ (res : List CR) (pre : List PV), (∀ r ∈ res, r.slot < tm.length) → evR (pre ++ (res.map CR.slot).map fun s => tm.getD s .bot) H (numR pre.length res) = evR tm H res
  | [], _, _ => rfl
  | r :: res, pre, h => by
    have ih := evR_num (tm := tm) (H := H) res (pre ++ [tm.getD r.slot .bot]) (fun x hx => h x (by simp [hx]))
    rw [List.append_assoc, List.length_append] at ih
    have e0 : (pre ++ ((r :: res).map CR.slot).map fun s => tm.getD s .bot) = pre ++ ([tm.getD r.slot .bot] ++ (res.map CR.slot).map fun s => tm.getD s .bot) := rfl
    have hget : (pre ++ ([tm.getD r.slot .bot] ++ (res.map CR.slot).map fun s => tm.getD s .bot))[pre.length]? = some (tm.getD r.slot .bot) := by
      rw [List.getElem?_append_right (Nat.le_refl _), Nat.sub_self]; rfl
    have hs := h r (by simp)
    rw [e0]
    cases r with
    | t n =>
      simp only [numR, evR]
      have : pre.length + [tm.getD (CR.t n).slot .bot].length = pre.length + 1 := rfl
      rw [this] at ih
      rw [ih, List.getD_eq_getElem?_getD, hget]
      have e1 : tm.getD n .und = tm.getD n .bot := by
        rw [List.getD_eq_getElem?_getD, List.getD_eq_getElem?_getD, List.getElem?_eq_getElem (show n < tm.length from hs)]; rfl
      rw [e1]
      rfl
    | cell n a s =>
      simp only [numR, evR]
      have : pre.length + [tm.getD (CR.cell n a s).slot .bot].length = pre.length + 1 := rfl
      rw [this] at ih
      rw [ih, List.getD_eq_getElem?_getD, hget]
      rfl
theorem lk_app {m m' : Mp} {s : Nat} : lk (m ++ m') s = match lk m s with | some x => some x | none => lk m' s := by
  induction m with
  | nil => rfl
  | cons a m ih =>
    obtain ⟨t, x⟩ := a
    show (if t = s then some x else lk (m ++ m') s) = match (if t = s then some x else lk m s) with | some x => some x | none => lk m' s
    by_cases h : t = s
    · rw [if_pos h, if_pos h]
    · rw [if_neg h, if_neg h]; exact ih
theorem rel0 {N np : Nat} {us : List Nat} {args : List PV} (ha : args.length = np) (hn : np ≤ N) (hu : ∀ s ∈ us, np ≤ s ∧ s < N) : Rel N (LF.m0 np us) (args ++ List.replicate (N - args.length) .und) args := ⟨by simp; omega, fun s x hx => by
  unfold LF.m0 at hx
  rw [lk_app] at hx
  split at hx
  · rename_i y hy
    cases hx
    obtain ⟨j, rfl, h⟩ := lk_enum (f := fun _ => .bot) _ 0 s x hy
    have hj : j < np := by have := (List.getElem?_eq_some_iff.1 h).1; simpa using this
    have : s = j := by
      rw [List.getElem?_eq_getElem (by simpa using hj)] at h
      simpa using h.symm
    subst this
    show _ = args.getD (0 + s) .bot
    rw [Nat.zero_add, List.getD_eq_getElem?_getD, List.getElem?_append_left (by omega), List.getD_eq_getElem?_getD]
  · have : ∀ us : List Nat, lk (us.map fun s => (s, X.c PV.und)) s = some x → s ∈ us ∧ x = .c .und := by
      intro us
      induction us with
      | nil => intro h; simp [lk] at h
      | cons a us ih =>
        intro h
        simp only [List.map_cons, lk] at h
        split at h
        · rename_i e; cases h; exact ⟨by simp [e], rfl⟩
        · obtain ⟨h1, h2⟩ := ih h; exact ⟨by simp [h1], h2⟩
    obtain ⟨h1, rfl⟩ := this us hx
    obtain ⟨h2, h3⟩ := hu s h1
    show _ = PV.und
    rw [List.getD_eq_getElem?_getD, List.getElem?_append_right (by omega), List.getElem?_replicate, if_pos (by omega)]
    rfl⟩
theorem evFL_ok {ct : Nat → Option CF} {lt : Nat → Option LF} {ov : Ov} (hlt : LtOk ct lt) : ∀ k f args H r, evFL lt ov k f args H = some r → evF ct ov k f args H = some r
  | 0, _, _, _, _, h => by simp [evFL] at h
  | k + 1, f, args, H, r, h => by
    simp only [evFL] at h
    simp only [evF]
    split at h
    · rename_i φ hφ; rw [hφ]; exact h
    · rename_i hov
      rw [hov]
      split at h
      · cases h
      · rename_i F hF
        obtain ⟨C, us, hint, np, fuel, h1, h2⟩ := hlt f F hF
        simp only [h1]
        unfold trF at h2
        split at h2
        · rename_i hb
          split at h2
          · rename_i lc hlc
            cases h2
            split at h
            · rename_i hal
              have hR := rel0 (us := us) hal hb.1 (fun s hs => of_decide_eq_true (List.all_eq_true.1 hb.2.1 s hs))
              have fin : ∀ {fl : Fl} {e : List PV} {H1 : Hp}, evL (evFL lt ov k) k lc args H = some (fl, e, H1) → (fl = .nx ∨ fl = .rt) → (match evR e H1 (numR 0 C.res) with | some l => evEnd C.pub H.length (one? l) H1 | none => none) = some r →
                  ∃ tm', evC (evF ct ov k) k C.body (args ++ List.replicate (C.ntmps - args.length) .und) H = some (fl, tm', H1) ∧ (match evR tm' H1 C.res with | some l => evEnd C.pub H.length (one? l) H1 | none => none) = some r := fun {fl e H1} he hfl hr => by
                obtain ⟨tm', h3, h4, S, h5, h6⟩ := tr_ok (callL := evFL lt ov k) (callC := evF ct ov k) (fun f a H r => evFL_ok hlt k f a H r) _ _ _ _ _ _ _ hlc hR he
                rw [evA_nil, evCs_one] at h3
                refine ⟨tm', h3, ?_⟩
                have hS : S = C.res.map CR.slot := by rcases hfl with rfl | rfl <;> exact (Option.some.inj h5).symm
                subst hS
                have h7 := evR_num (tm := tm') (H := H1) C.res [] (fun x hx => by rw [h4]; exact of_decide_eq_true (List.all_eq_true.1 hb.2.2 x hx))
                rw [h6] at hr
                rw [List.nil_append] at h7
                have h8 : numR ([] : List PV).length C.res = numR 0 C.res := rfl
                rw [h8] at h7
                rw [← h7]
                exact hr
              split at h
              · cases h
              · rename_i fl e H1 hne he
                cases fl with
                | nx =>
                  obtain ⟨tm', h3, h4⟩ := fin he (.inl rfl) h
                  rw [h3]; exact h4
                | rt =>
                  obtain ⟨tm', h3, h4⟩ := fin he (.inr rfl) h
                  rw [h3]; exact h4
                | ex i => exact (hne i rfl).elim
              · cases h
            · cases h
          · cases h2
        · cases h2
end Go.Proofs.YtnljpfjoboafoaaDoor.Ev
