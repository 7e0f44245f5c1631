/- Bodies and functions: the evaluator is right. -/
import Derived.Test.YtnljpfjoboafoaaDoorEvG
import Derived.Test.YtnljpfjoboafoaaDoorEvP
namespace Go.Proofs.YtnljpfjoboafoaaDoor.Ev
set_option linter.all false
open Go Go.RowKit

inductive CC where
  | skip
  | reg (ops : List CO)
  | seq (a b : CC)
  | cond (c : X) (a b : CC)
  | block (id : Nat) (b : CC)
  | loop (live : List Nat) (b : CC)
  | exit (id : Nat)
  | ret
  deriving Inhabited
inductive Fl where
  | nx | ex (id : Nat) | rt
abbrev Res := Option (Fl × List PV × Hp)
def Fl.exit : Fl → Exit
  | .nx => .normal
  | .ex id => .exit id
  | .rt => .ret

def loopGo (n : Nat) (live : List Nat) (body : List PV → Hp → Res) : Nat → List PV → Hp → Res
  | 0, _, _ => none
  | k + 1, tm, H => match body (head n live tm H).1 (head n live tm H).2 with
    | some (.nx, tm', H') => loopGo n live body k tm' H'
    | r => r
def evC (call : Nat → List PV → Hp → Option (PV × Hp)) (k : Nat) : CC → List PV → Hp → Res
  | .skip, tm, H => some (.nx, tm, H)
  | .reg ops, tm, H => match evOs call ops tm H with | some (tm', H') => some (.nx, tm', H') | none => none
  | .seq a b, tm, H => match evC call k a tm H with
    | some (.nx, tm', H') => evC call k b tm' H'
    | r => r
  | .cond c a b, tm, H => match c.ev tm with | .bool t => (if t = true then evC call k a tm H else evC call k b tm H) | _ => none
  | .block id b, tm, H => match evC call k b tm H with
    | some (.ex i, tm', H') => if i = id then some (.nx, tm', H') else some (.ex i, tm', H')
    | r => r
  | .loop live b, tm, H => loopGo H.length live (evC call k b) k tm H
  | .exit id, tm, H => some (.ex id, tm, H)
  | .ret, tm, H => some (.rt, tm, H)

def compC (P : Program) (cfg : Nat → Nat) (lv : Nat → List Nat) : Nat → Code → Option CC
  | _, .skip => some .skip
  | _, .label _ => some .skip
  | _, .region _ ops draw => match compOs P ops cfg ops.toList with
    | some cops => if !draw || (drawOk (befs ops.toList []) cops && edgesB ops.toList 0 && cops.all fun c => c.op.xs.all X.pure) then some (.reg cops)
      else if easyOk (befs ops.toList []) cops && edgesB ops.toList 0 then some (.seq (.reg cops) (.reg (difs (befs ops.toList []) cops))) else none
    | none => none
  | i, .seq a b => match compC P cfg lv i a, compC P cfg lv i b with | some x, some y => some (.seq x y) | _, _ => none
  | i, .cond c a b => match compC P cfg lv i a, compC P cfg lv i b with | some x, some y => some (.cond (cx c) x y) | _, _ => none
  | _, .block id b => match compC P cfg lv id b with | some x => some (.block id x) | none => none
  | i, .loop b => match compC P cfg lv i b with | some x => some (.loop (lv i) x) | none => none
  | _, .exit id => some (.exit id)
  | _, .ret => some .ret
  | _, _ => none

section
variable {P : Program} {call : Nat → List PV → Hp → Option (PV × Hp)}

theorem evC_wp (hcall : CallOk P call) (hmx : P.follows .mixedOrders = true) {cfg : Nat → Nat} {lv : Nat → List Nat} {k : Nat} : ∀ (c : Code) (i : Nat) (cc : CC), compC P cfg lv i c = some cc →
    ∀ {Q : Exit → Act → World → Prop} {g0 : Gh} {H0 : Hp} {w0 : World} {g : Gh} {tm : List PV} {H : Hp} {a : Act} {w : World}, StOk g tm H a w → Ext g0 H0 w0 g H w → ∀ {fl : Fl} {tm' : List PV} {H' : Hp}, evC call k cc tm H = some (fl, tm', H') →
      (∀ a' w' g', StOk g' tm' H' a' w' → Ext g0 H0 w0 g' H' w' → Q fl.exit a' w') → c.wp P Q a w := by
  intro c
  induction c with
  | skip =>
    intro i cc hc Q g0 H0 w0 g tm H a w h hE fl tm' H' he hQ
    simp only [compC, Option.some.injEq] at hc
    subst hc
    simp only [evC, Option.some.injEq, Prod.mk.injEq] at he
    obtain ⟨rfl, rfl, rfl⟩ := he
    exact wp_skip (hQ a w g h hE)
  | label l =>
    intro i cc hc Q g0 H0 w0 g tm H a w h hE fl tm' H' he hQ
    simp only [compC, Option.some.injEq] at hc
    subst hc
    simp only [evC, Option.some.injEq, Prod.mk.injEq] at he
    obtain ⟨rfl, rfl, rfl⟩ := he
    exact wp_label (hQ a w g h hE)
  | region id ops draw =>
    intro i cc hc Q g0 H0 w0 g tm H a w h hE fl tm' H' he hQ
    simp only [compC] at hc
    split at hc
    · rename_i cops hcops
      split at hc
      · rename_i hd
        cases hc
        simp only [evC] at he
        split at he
        · rename_i tm1 H1 h1
          simp only [Option.some.injEq, Prod.mk.injEq] at he
          obtain ⟨rfl, rfl, rfl⟩ := he
          cases draw with
          | false => exact reg_wp hcall hcops h h1 fun a' w' g' hs hE' => hQ a' w' g' hs (hE.trans hE')
          | true =>
            simp only [Bool.not_true, Bool.false_or, Bool.and_eq_true] at hd
            exact draw_wp hcall hmx hcops hd.1.1 hd.1.2 hd.2 h h1 fun a' w' g' hs hE' => hQ a' w' g' hs (hE.trans hE')
        · cases he
      · rename_i hd
        split at hc
        · rename_i hd2
          cases hc
          simp only [Bool.and_eq_true] at hd2
          cases draw with
          | false => exact absurd rfl hd
          | true =>
            simp only [evC] at he
            split at he
            · rename_i tm1 H1 h1
              split at h1
              · rename_i tm2 H2 h2
                cases h1
                split at he
                · rename_i tm3 H3 h3
                  cases he
                  obtain ⟨rfl, rfl, h4⟩ := evOs_difs _ (fun c hc => difs_shape hc) h3
                  exact draw2_wp hcall hmx hcops hd2.1 hd2.2 h h2 h4 fun a' w' g' hs hE' => hQ a' w' g' hs (hE.trans hE')
                · cases he
              · cases h1
            · rename_i hne
              split at he
              · rename_i tm2 H2 h2
                exact (hne tm2 H2 (by rw [h2])).elim
              · cases he
        · cases hc
    · cases hc
  | seq x y ihx ihy =>
    intro i cc hc Q g0 H0 w0 g tm H a w h hE fl tm' H' he hQ
    simp only [compC] at hc
    split at hc
    · rename_i cx cy h1 h2
      cases hc
      simp only [evC] at he
      refine wp_seq ?_
      split at he
      · rename_i tm1 H1 h3
        exact ihx i cx h1 h hE h3 fun a' w' g' hs hE' => ihy i cy h2 hs hE' he hQ
      · rename_i hne
        refine ihx i cx h1 h hE he fun a' w' g' hs hE' => ?_
        have := hQ a' w' g' hs hE'
        cases fl with
        | nx => exact absurd he (hne _ _)
        | ex id => exact this
        | rt => exact this
    · cases hc
  | cond c x y ihx ihy =>
    intro i cc hc Q g0 H0 w0 g tm H a w h hE fl tm' H' he hQ
    simp only [compC] at hc
    split at hc
    · rename_i cx' cy h1 h2
      cases hc
      simp only [evC] at he
      split at he
      · rename_i t ht
        have hv := cx_ev h.tm (a := a) c
        rw [ht] at hv
        simp only [RV] at hv
        refine wp_cond hv ?_
        cases t with
        | true => simp only [if_true] at he ⊢; exact ihx i cx' h1 h hE he hQ
        | false => simp only [Bool.false_eq_true, if_false] at he ⊢; exact ihy i cy h2 h hE he hQ
      · cases he
    · cases hc
  | block id b ih =>
    intro i cc hc Q g0 H0 w0 g tm H a w h hE fl tm' H' he hQ
    simp only [compC] at hc
    split at hc
    · rename_i cb h1
      cases hc
      simp only [evC] at he
      refine wp_block ?_
      split at he
      · rename_i j tm1 H1 h3
        refine ih id cb h1 h hE h3 fun a' w' g' hs hE' => ?_
        split at he
        · rename_i hj
          cases he
          simp only [Fl.exit, Exit.inBlock, hj, if_true]
          exact hQ a' w' g' hs hE'
        · rename_i hj
          cases he
          simp only [Fl.exit, Exit.inBlock, hj, if_false]
          exact hQ a' w' g' hs hE'
      · rename_i hne
        refine ih id cb h1 h hE he fun a' w' g' hs hE' => ?_
        have := hQ a' w' g' hs hE'
        cases fl with
        | nx => exact this
        | ex j => exact absurd he (hne _ _ _)
        | rt => exact this
    · cases hc
  | loop b ih =>
    intro i cc hc Q g0 H0 w0 g tm H a w h hE fl tm' H' he hQ
    simp only [compC] at hc
    split at hc
    · rename_i cb h1
      cases hc
      simp only [evC] at he
      refine wp_loop_rounds k ?_
      have key : ∀ (m : Nat) {g : Gh} {tm1 : List PV} {H1 : Hp} {a : Act} {w : World}, StOk g tm1 H1 a w → Ext g0 H0 w0 g H1 w → H.length ≤ H1.length → loopGo H.length (lv i) (evC call k cb) m tm1 H1 = some (fl, tm', H') → Code.rounds P b Q m a w := by
        intro m
        induction m with
        | zero => intro g tm1 H1 a w _ _ _ he; simp [loopGo] at he
        | succ m ihm =>
          intro g tm1 H1 a w h hE1 hl he
          simp only [loopGo] at he
          rw [rounds_succ]
          have h0 : H0.length ≤ H.length := hE.len
          obtain ⟨g1, h2, h3, h4⟩ := head_ok (live := lv i) h.inv h.tm hl h0 hE1
          have hs1 : StOk g1 (head H.length (lv i) tm1 H1).1 (head H.length (lv i) tm1 H1).2 a w := ⟨h3, h2, h.defers⟩
          split at he
          · rename_i tm2 H2 h5
            refine ih i cb h1 hs1 (Ext.refl _ _ _) h5 fun a' w' g' hs hE' => ?_
            exact ihm hs (h4.trans hE') (by have := head_len (live := lv i) (tm := tm1) hl; have := hE'.len; omega) he
          · rename_i hne
            refine ih i cb h1 hs1 h4 he fun a' w' g' hs hE' => ?_
            have := hQ a' w' g' hs hE'
            cases fl with
            | nx => exact absurd he (hne _ _)
            | ex j => exact this
            | rt => exact this
      exact key k h hE (Nat.le_refl _) he
    · cases hc
  | rangeFunc f ps x y => intro i cc hc; simp [compC] at hc
  | exit id =>
    intro i cc hc Q g0 H0 w0 g tm H a w h hE fl tm' H' he hQ
    simp only [compC, Option.some.injEq] at hc
    subst hc
    simp only [evC, Option.some.injEq, Prod.mk.injEq] at he
    obtain ⟨rfl, rfl, rfl⟩ := he
    exact wp_exit (hQ a w g h hE)
  | scope b => intro i cc hc; simp [compC] at hc
  | goto l => intro i cc hc; simp [compC] at hc
  | ret =>
    intro i cc hc Q g0 H0 w0 g tm H a w h hE fl tm' H' he hQ
    simp only [compC, Option.some.injEq] at hc
    subst hc
    simp only [evC, Option.some.injEq, Prod.mk.injEq] at he
    obtain ⟨rfl, rfl, rfl⟩ := he
    exact wp_ret (hQ a w g h hE)
  | refuse why => intro i cc hc; simp [compC] at hc
end

/-! ### Functions -/
inductive CR where
  | t (n : Nat)
  | cell (n : Nat) (agg : Bool) (sz : Nat)
  deriving Inhabited
structure CF where
  ntmps : Nat
  res : List CR
  body : CC
  pub : Bool
  deriving Inhabited
def evR (tm : List PV) (H : Hp) : List CR → Option (List PV)
  | [] => some []
  | .t n :: r => match evR tm H r with | some l => some (tm.getD n .und :: l) | none => none
  | .cell n agg sz :: r => match tm.getD n .bot, evR tm H r with
    | .ptr id off, some l => (match H[id]? with
      | some (.cells cs) => (match PV.of? agg sz ((cs.drop off).take sz) with | some p => some (p :: l) | none => none)
      | _ => none)
    | _, _ => none
def one? : List PV → PV
  | [p] => p
  | l => .tup l
/-- A function's answer: rows told for good, where it is so, and its heap made small. -/
def evEnd : Bool → Nat → PV → Hp → Option (PV × Hp)
  | false, n, r, H => some (r.ren (renOf n H (used n [r] H)), (compact n [r] H).2)
  | true, n, r, H => match pubV 8 r H with | some (r', H') => some (r'.ren (renOf n H' (used n [r'] H')), (compact n [r'] H').2) | none => none

abbrev Ov := Nat → Option (List PV → Hp → Option (PV × Hp))
def evF (ct : Nat → Option CF) (ov : Ov) : Nat → Nat → List PV → Hp → Option (PV × Hp)
  | 0, _, _, _ => none
  | k + 1, f, args, H => match ov f with
    | some φ => φ args H
    | none => match ct f with
      | none => none
      | some F => match evC (evF ct ov k) k F.body (args ++ List.replicate (F.ntmps - args.length) .und) H with
        | some (.ex _, _, _) => none
        | some (_, tm, H') => (match evR tm H' F.res with | some l => evEnd F.pub H.length (one? l) H' | none => none)
        | none => none

def compR (P : Program) : List ResultVar → Option (List CR)
  | [] => some []
  | .tmp t :: r => match compR P r with | some l => some (.t t :: l) | none => none
  | .cell n T :: r => match P.underlying T, P.info? T, compR P r with | some d, some i, some l => some (.cell n (isAggD d) (if isAggD d then i.size else 1) :: l) | _, _, _ => none
def compF (P : Program) (fn : Func) (cfg : Nat → Nat) (lv : Nat → List Nat) (pub : Bool) : Option CF :=
  match fn.body, compR P fn.results.toList with
  | some c, some rs => match compC P cfg lv 0 c with | some cc => some ⟨fn.ntmps, rs, cc, pub⟩ | none => none
  | _, _ => none

/-- The table tells the program's functions. -/
def TabOk (P : Program) (ct : Nat → Option CF) : Prop := ∀ f F, ct f = some F → ∃ fn cfg lv pub, P.funcs[f]? = some fn ∧ (fn.name == "runtime.NumGoroutine") = false ∧ compF P fn cfg lv pub = some F
def OvOk (P : Program) (ov : Ov) : Prop := ∀ f φ, ov f = some φ → CallOk P fun f' args H => if f' = f then φ args H else none

section
variable {P : Program}

theorem run_res {g : Gh} {H : Hp} {tm : List PV} {a : Act} {w : World} (hI : Inv g H w) (ht : RVs g H tm a.tmps.toList) : ∀ (rs : List ResultVar) (crs : List CR) (l : List PV), compR P rs = some crs → evR tm H crs = some l →
    ∃ vs, (rs.mapM fun r => (match r with | .tmp t => pure (a.tmps.getD t undef) | .cell n T => do loadVar T (← asAddr (a.tmps.getD n undef)) : Sem Value)).run P w = .ok vs w ∧ RVs g H l vs
  | [], crs, l, hc, he => by
    simp only [compR, Option.some.injEq] at hc
    subst hc
    simp only [evR, Option.some.injEq] at he
    subst he
    exact ⟨[], rfl, by simp only [RVs]⟩
  | .tmp t :: r, crs, l, hc, he => by
    simp only [compR] at hc
    split at hc
    · rename_i cl h1
      cases hc
      simp only [evR] at he
      split at he
      · rename_i l' h2
        cases he
        obtain ⟨vs, h3, h4⟩ := run_res hI ht r cl l' h1 h2
        refine ⟨a.tmps.getD t undef :: vs, ?_, ?_⟩
        · simp only [List.mapM_cons, Sem.run_bind, Sem.run_pure, Result.andThen_ok, h3]
        · simp only [RVs]
          refine ⟨_, _, rfl, ?_, h4⟩
          cases e : tm[t]? with
          | none =>
            rw [List.getD_eq_getElem?_getD, e]
            have : a.tmps[t]? = none := by
              have hl := ht.length
              rw [List.getElem?_eq_none_iff] at e
              rw [Array.getElem?_eq_none_iff]
              simp at hl; omega
            rw [Array.getD_eq_getD_getElem?, this]
            simp only [Option.getD_none, RV]
          | some p =>
            obtain ⟨v, h5, h6⟩ := ht.get e
            rw [List.getD_eq_getElem?_getD, e, Array.getD_eq_getD_getElem?]
            have : a.tmps[t]? = some v := by simpa using h5
            rw [this]
            exact h6
      · cases he
    · cases hc
  | .cell n T :: r, crs, l, hc, he => by
    simp only [compR] at hc
    split at hc
    · rename_i d i cl hT hi h1
      cases hc
      simp only [evR] at he
      split at he
      · rename_i id off l' hp h2
        split at he
        · rename_i cs hcs
          split at he
          · rename_i p hof
            cases he
            obtain ⟨vs, h3, h4⟩ := run_res hI ht r cl l' h1 h2
            have hv : ∃ b e top, a.tmps.getD n undef = .pointer (some ⟨b, e + off, none⟩) ∧ g.μ id = some (b, e, top) := by
              rw [List.getD_eq_getElem?_getD] at hp
              cases e : tm[n]? with
              | none => rw [e] at hp; cases hp
              | some q =>
                rw [e] at hp
                simp only [Option.getD_some] at hp
                subst hp
                obtain ⟨v, h5, h6⟩ := ht.get e
                simp only [RV] at h6
                obtain ⟨_, b, e', top, hm, rfl⟩ := h6
                refine ⟨b, e', top, ?_, hm⟩
                rw [Array.getD_eq_getD_getElem?]
                have : a.tmps[n]? = some (.pointer (some ⟨b, e' + off, none⟩)) := by simpa using h5
                rw [this]; rfl
            obtain ⟨b, e', top, hv, hm⟩ := hv
            obtain ⟨_, us, h5, h6⟩ := hI.obj id cs b e' top hcs hm
            obtain ⟨u, h7, h8⟩ := run_loadVar (w := w) hT hi ((h5.drop off).take (if isAggD d then i.size else 1)) (fun j v hv => by
              have := get_take_some hv
              rw [List.getElem?_drop] at this
              rw [Nat.add_assoc]
              exact h6 _ v this) hof
            refine ⟨u :: vs, ?_, by simp only [RVs]; exact ⟨u, vs, rfl, h8, h4⟩⟩
            have ha : (asAddr (a.tmps.getD n undef)).run P w = .ok ⟨b, e' + off, none⟩ w := by rw [hv]; rfl
            simp only [List.mapM_cons, Sem.run_bind, Sem.run_pure, Result.andThen_ok, ha, h7, h3]
          · cases he
        · cases he
      · cases he
    · cases hc

theorem results_run {g : Gh} {H : Hp} {tm : List PV} {a : Act} {w : World} (hI : Inv g H w) (ht : RVs g H tm a.tmps.toList) {fn : Func} {crs : List CR} {l : List PV} (hc : compR P fn.results.toList = some crs) (he : evR tm H crs = some l) :
    ∃ v, (results fn a.tmps).run P w = .ok v w ∧ RV g H (one? l) v := by
  obtain ⟨vs, h1, h2⟩ := run_res (P := P) hI ht fn.results.toList crs l hc he
  have hrun : (results fn a.tmps).run P w = .ok (if h : vs.toArray.size = 1 then vs.toArray[0] else .tuple vs.toArray) w := by
    unfold results
    rw [← Array.toArray_toList (xs := fn.results), List.mapM_toArray]
    simp only [Sem.run_bind, Sem.run_map]
    erw [h1]
    rfl
  refine ⟨_, hrun, ?_⟩
  cases l with
  | nil => simp only [RVs] at h2; subst h2; simp only [one?, RV]; exact ⟨[], rfl, by simp only [RVs]⟩
  | cons p r =>
    simp only [RVs] at h2
    obtain ⟨v, us, rfl, h3, h4⟩ := h2
    cases r with
    | nil => simp only [RVs] at h4; subst h4; simpa [one?] using h3
    | cons q r =>
      simp only [RVs] at h4
      obtain ⟨v2, us2, rfl, h5, h6⟩ := h4
      simp only [one?, RV]
      refine ⟨v :: v2 :: us2, ?_, by simp only [RVs]; exact ⟨v, _, rfl, h3, v2, us2, rfl, h5, h6⟩⟩
      rw [dif_neg (by simp)]

theorem evEnd_ok {g g0 : Gh} {H H0 H' : Hp} {w w0 : World} {p r : PV} {v : Value} {pub : Bool} (hI : Inv g H w) (hr : RV g H p v) (hE : Ext g0 H0 w0 g H w) (he : evEnd pub H0.length p H = some (r, H')) :
    ∃ g', Inv g' H' w ∧ RV g' H' r v ∧ Ext g0 H0 w0 g' H' w := by
  cases pub with
  | false =>
    simp only [evEnd, Option.some.injEq, Prod.mk.injEq] at he
    obtain ⟨rfl, rfl⟩ := he
    obtain ⟨g2, h6, h7, h8⟩ := compact_ext hI hE.len [p] (Nat.le_refl _) hE
    exact ⟨g2, h6, RV.ren h7 hr, h8⟩
  | true =>
    simp only [evEnd] at he
    split at he
    · rename_i r1 H1 h1
      cases he
      obtain ⟨g1, h2, h3, h4⟩ := pubV_ok 8 p H r1 H1 h1 g w v hI hr
      have hE1 := hE.trans (h4.ext w)
      obtain ⟨g2, h6, h7, h8⟩ := compact_ext h2 hE1.len [r1] (Nat.le_refl _) hE1
      exact ⟨g2, h6, RV.ren h7 h3, h8⟩
    · cases he

theorem evF_ok (hmx : P.follows .mixedOrders = true) {ct : Nat → Option CF} {ov : Ov} (hct : TabOk P ct) (hov : OvOk P ov) : ∀ k, CallOk P (evF ct ov k)
  | 0 => fun f args H r H' h => by simp [evF] at h
  | k + 1 => fun f args H r H' h => by
    simp only [evF] at h
    split at h
    · rename_i φ hφ
      exact hov f φ hφ f args H r H' (by show (if f = f then φ args H else none) = _; rw [if_pos rfl]; exact h)
    · split at h
      · cases h
      · rename_i F hF
        obtain ⟨fn, cfg, lv, pub, h1, h2, h3⟩ := hct f F hF
        unfold compF at h3
        split at h3
        · rename_i c rs hb hrs
          split at h3
          · rename_i cc hcc
            cases h3
            refine ⟨⟨fn, h1, h2, by rw [hb]; rfl⟩, fun g w vs hI hr => ?_⟩
            have hlen := hr.length
            have hst : StOk g (args ++ List.replicate (fn.ntmps - args.length) .und) H { tmps := (⟨vs⟩ : Array Value) ++ Array.replicate (fn.ntmps - (⟨vs⟩ : Array Value).size) undef, defers := [] } w := by
              refine ⟨?_, hI, rfl⟩
              simp only [Array.toList_append, Array.toList_replicate]
              refine hr.append ?_
              have : (⟨vs⟩ : Array Value).size = args.length := hlen.symm
              rw [this]
              generalize fn.ntmps - args.length = n
              induction n with
              | zero => simp only [List.replicate_zero, RVs]
              | succ n ih => simp only [List.replicate_succ, RVs]; exact ⟨_, _, rfl, by simp only [RV], ih⟩
            have fin : ∀ {fl : Fl} {tm : List PV} {H1 : Hp}, evC (evF ct ov k) k cc (args ++ List.replicate (fn.ntmps - args.length) .und) H = some (fl, tm, H1) → (fl.exit = .normal ∨ fl.exit = .ret) →
                (match evR tm H1 rs with | some l => evEnd pub H.length (one? l) H1 | none => none) = some (r, H') → Calls P f ⟨vs⟩ w fun e w' => ∃ v g', e = .returned v ∧ Inv g' H' w' ∧ RV g' H' r v ∧ Ext g H w g' H' w' := fun {fl tm H1} he hfl hr' => by
              split at hr'
              · rename_i l hl
                refine calls_of_wp h1 hb (evC_wp (evF_ok hmx hct hov k) hmx c 0 cc hcc hst (Ext.refl g H w) he fun a' w' g' hs hE => ?_)
                obtain ⟨v, h4, h5⟩ := results_run hs.inv hs.tm hrs hl
                obtain ⟨g2, h6, h7, h8⟩ := evEnd_ok hs.inv h5 hE hr'
                have hpost : a'.defers = [] ∧ ∃ v, (results fn a'.tmps).run P w' = .ok v w' ∧ ∃ v' g', Ending.returned v = .returned v' ∧ Inv g' H' w' ∧ RV g' H' r v' ∧ Ext g H w g' H' w' :=
                  ⟨hs.defers, v, h4, v, g2, rfl, h6, h7, h8⟩
                rcases hfl with hfl | hfl <;> rw [hfl] <;> exact hpost
              · cases hr'
            split at h
            · cases h
            · rename_i fl tm H1 hne he
              cases fl with
              | nx => exact fin he (.inl rfl) h
              | rt => exact fin he (.inr rfl) h
              | ex id => exact (hne id rfl).elim
            · cases h
          · cases h3
        · cases h3
end
end Go.Proofs.YtnljpfjoboafoaaDoor.Ev
