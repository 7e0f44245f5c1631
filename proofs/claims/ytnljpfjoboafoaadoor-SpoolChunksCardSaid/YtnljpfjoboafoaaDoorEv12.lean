/- Each operation that calls nothing: the evaluator tells what it comes to. -/
import Derived.Test.YtnljpfjoboafoaaDoorEv11
namespace Go.Proofs.YtnljpfjoboafoaaDoor.Ev
set_option linter.all false
open Go Go.RowKit
section
variable {P : Program} {g : Gh} {H : Hp} {w : World} {tm : List PV} {a : Act} {call : Nat → List PV → Hp → Option (PV × Hp)}

def COp.calls : COp → Bool
  | .call _ _ _ _ | .callv _ _ | .callw _ _ _ => true
  | _ => false

theorem ev_no {r : PV} {H' : Hp} (h : evalOp call tm H .no = some (r, H')) : False := by simp [evalOp] at h

theorem op_sound (hI : Inv g H w) (ht : RVs g H tm a.tmps.toList) {fl : Nat} {o : Oper} (hc : (comp P fl o).calls = false) {r : PV} {H' : Hp} (h : evalOp call tm H (comp P fl o) = some (r, H')) : Runs P g H w (execOp a.eval o) r H' := by
  have hx := fun x => cx_ev ht (a := a) x
  obtain ⟨dst, op, type, pos, after, guard⟩ := o
  cases op <;> simp only [comp] at h hc <;> (try exact (ev_no h).elim)
  case move x =>
    simp only [evalOp, Option.some.injEq, Prod.mk.injEq] at h
    obtain ⟨rfl, rfl⟩ := h
    exact Runs.same hI rfl (hx x)
  case assign x =>
    simp only [evalOp, Option.some.injEq, Prod.mk.injEq] at h
    obtain ⟨rfl, rfl⟩ := h
    exact Runs.same hI rfl (hx x)
  case pick c y z => exact snd_pick hI hx h
  case alloc T =>
    split at h
    · rename_i i hi
      split at h
      · rename_i z hz
        simp only [evalOp, Option.some.injEq, Prod.mk.injEq] at h
        obtain ⟨rfl, rfl⟩ := h
        exact snd_alloc hI hi hz
      · exact (ev_no h).elim
    · exact (ev_no h).elim
  case box T x =>
    split at h
    · simp only [evalOp] at h
      split at h
      · rename_i cs hcs
        split at h
        · rename_i ds hds
          split at h
          · rename_i hone
            cases h
            exact snd_boxc hI T (hx x) hcs hds hone
          · cases h
        · cases h
      · cases h
    simp only [evalOp] at h
    split at h
    · rename_i cs hcs
      cases h
      exact snd_box hI T (hx x) hcs
    · cases h
  case build T ps =>
    split at h
    · rename_i i fields hi hT
      split at h
      · rename_i z pl hz hpl
        split at h
        · rename_i cp hm
          simp only [evalOp] at h
          split at h
          · rename_i cs hf
            cases h
            exact snd_build hI hx hi hT hz hpl hm hf
          · cases h
        · exact (ev_no h).elim
      · exact (ev_no h).elim
    · exact (ev_no h).elim
  case buildSlice T n ps =>
    split at h
    · rename_i e hT
      split at h
      · rename_i i hi
        split at h
        · rename_i z hz
          split at h
          · rename_i hn
            split at h
            · rename_i cp hm
              split at h
              · simp only [evalOp] at h
                split at h
                · rename_i cs hf
                  split at h
                  · rename_i hl
                    cases h
                    exact snd_litr hI hx hT hi hz hn.1 hn.2 hm hf hl.1
                  · cases h
                · cases h
              simp only [evalOp] at h
              split at h
              · rename_i cs hf
                split at h
                · rename_i ds hd
                  split at h
                  · rename_i hl
                    have := snd_lit (keep := fl == 2) hI hx hT hi hz hn.1 hn.2 hm hf hd hl.1 hl.2
                    cases hfl : (fl == 2) with
                    | true =>
                      rw [hfl] at h this
                      simp only [if_true, Option.some.injEq, Prod.mk.injEq] at h this
                      obtain ⟨rfl, rfl⟩ := h
                      exact this
                    | false =>
                      rw [hfl] at h this
                      simp only [Bool.false_eq_true, if_false, Option.some.injEq, Prod.mk.injEq] at h this
                      obtain ⟨rfl, rfl⟩ := h
                      exact this
                  · cases h
                · cases h
              · cases h
            · exact (ev_no h).elim
          · exact (ev_no h).elim
        · exact (ev_no h).elim
      · exact (ev_no h).elim
    · exact (ev_no h).elim
  case load T x =>
    split at h
    · rename_i d i hT hi
      exact snd_load hI hT hi (hx x) h
    · exact (ev_no h).elim
  case store T x y =>
    split at h
    · rename_i i hi
      exact snd_store hI hi (hx x) (hx y) h
    · exact (ev_no h).elim
  case nilCheck x => exact snd_chk (o := ⟨dst, .nilCheck x, type, pos, after, guard⟩) hI rfl (hx x) h
  case binOp op T x y yt =>
    have hb : ∀ {op : BinOp}, evalOp call tm H (.bin op (cx x) (cx y)) = some (r, H') → Runs P g H w (execOp a.eval ⟨dst, .binOp op T x y yt, type, pos, after, guard⟩) r H' := by
      clear h hc
      intro op h
      simp only [evalOp] at h
      split at h
      · rename_i p hp
        cases h
        exact snd_bin hI (hx x) (hx y) hp
      · cases h
    have he : ∀ {op : BinOp} {neg : Bool}, P.underlying T = some .bool → ((op = .eql ∧ neg = false) ∨ (op = .neq ∧ neg = true)) → evalOp call tm H (.beq neg (cx x) (cx y)) = some (r, H') → Runs P g H w (execOp a.eval ⟨dst, .binOp op T x y yt, type, pos, after, guard⟩) r H' := by
      clear h hc
      intro op neg hT hop h
      simp only [evalOp] at h
      have h1 := hx x
      have h2 := hx y
      split at h
      · rename_i b c h3 h4
        cases h
        rw [h3] at h1
        rw [h4] at h2
        simp only [RV] at h1 h2
        simp only [execOp, h1, h2]
        exact snd_beq hI hT hop
      · cases h
    have hn : ∀ {op : BinOp} {neg : Bool} {e : TypeId}, P.underlying T = some (.slice e) → ((op = .eql ∧ neg = false) ∨ (op = .neq ∧ neg = true)) → isNilC y = true → evalOp call tm H (.snil neg (cx x)) = some (r, H') → Runs P g H w (execOp a.eval ⟨dst, .binOp op T x y yt, type, pos, after, guard⟩) r H' := by
      clear h hc
      intro op neg e hT hop hy h
      have hy' : y = .const (.slice none 0 0) := by
        unfold isNilC at hy
        split at hy
        · rfl
        · cases hy
      subst hy'
      simp only [evalOp] at h
      exact snd_snil hI hT hop (hx x) h
    have hni : ∀ {op : BinOp} {neg : Bool} {ms : Array (String × TypeId)}, P.underlying T = some (.interface ms) → ((op = .eql ∧ neg = false) ∨ (op = .neq ∧ neg = true)) → isNilI y = true → evalOp call tm H (.inil neg (cx x)) = some (r, H') → Runs P g H w (execOp a.eval ⟨dst, .binOp op T x y yt, type, pos, after, guard⟩) r H' := by
      clear h hc
      intro op neg ms hT hop hy h
      have hy' : y = .const .nilIface := by
        unfold isNilI at hy
        split at hy
        · rfl
        · cases hy
      subst hy'
      have h1 := hx x
      simp only [evalOp] at h
      split at h
      · rename_i t h3
        cases h
        rw [h3] at h1
        exact snd_inil hI hT hop h1
      · cases h
    have hae : ∀ {op : BinOp} {neg : Bool} {fs : Array Field}, P.underlying T = some (.struct fs) → ((op = .eql ∧ neg = false) ∨ (op = .neq ∧ neg = true)) → (flatF P 0 fs.toList && !P.stoodInHeld T && !P.eqGuardType P.depth T) = true → evalOp call tm H (.aeq neg (kindsF P fs.toList) (cx x) (cx y)) = some (r, H') → Runs P g H w (execOp a.eval ⟨dst, .binOp op T x y yt, type, pos, after, guard⟩) r H' := by
      clear h hc
      intro op neg fs hT hop hcond h
      simp only [Bool.and_eq_true, Bool.not_eq_true'] at hcond
      have h1 := hx x
      have h2 := hx y
      simp only [evalOp] at h
      split at h
      · rename_i as bs h3 h4
        rw [h3] at h1
        rw [h4] at h2
        split at h
        · rename_i hl
          split at h
          · rename_i t ht'
            cases h
            exact snd_aeq hI hT hcond.1.1 hcond.1.2 hcond.2 hop h1 h2 hl.1 hl.2 ht'
          · cases h
        · cases h
      · cases h
    split at h
    · rename_i hT; exact he hT (.inl ⟨rfl, rfl⟩) h
    · rename_i hT; exact he hT (.inr ⟨rfl, rfl⟩) h
    · rename_i e hT
      split at h
      · rename_i hy; exact hn hT (.inl ⟨rfl, rfl⟩) hy h
      · exact (ev_no h).elim
    · rename_i e hT
      split at h
      · rename_i hy; exact hn hT (.inr ⟨rfl, rfl⟩) hy h
      · exact (ev_no h).elim
    · rename_i ms hT
      split at h
      · rename_i hy; exact hni hT (.inl ⟨rfl, rfl⟩) hy h
      · exact (ev_no h).elim
    · rename_i ms hT
      split at h
      · rename_i hy; exact hni hT (.inr ⟨rfl, rfl⟩) hy h
      · exact (ev_no h).elim
    · rename_i fs hT
      split at h
      · rename_i hcond
        exact hae hT (.inl ⟨rfl, rfl⟩) hcond h
      · exact (ev_no h).elim
    · rename_i fs hT
      split at h
      · rename_i hcond
        exact hae hT (.inr ⟨rfl, rfl⟩) hcond h
      · exact (ev_no h).elim
    · exact hb h
  case unOp op t x =>
    simp only [evalOp] at h
    exact snd_un hI (hx x) h
  case convert s d x =>
    have h1 := hx x
    split at h
    · rename_i hs hd
      simp only [evalOp] at h
      split at h
      · rename_i l hl
        cases h
        rw [hl] at h1
        simp only [RV] at h1
        simp only [execOp, h1]
        exact snd_cvs hI hs hd
      · cases h
    · rename_i ks k hs hd
      simp only [evalOp] at h
      split at h
      · rename_i k' n hl
        cases h
        rw [hl] at h1
        simp only [RV] at h1
        simp only [execOp, h1]
        exact snd_cvt hI hs hd
      · cases h
    · rename_i e hs hd
      split at h
      · rename_i he
        simp only [evalOp] at h
        split at h
        · rename_i l hl
          rw [hl] at h1
          simp only [RV] at h1
          simp only [Bool.and_eq_true] at he
          have := snd_s2b (P := P) (l := l) he.2 hI hs hd (isU8_spec he.1) (fl == 1)
          simp only [execOp, h1]
          cases hfl : (fl == 1) with
          | true =>
            rw [hfl] at h this
            simp only [if_true, Option.some.injEq, Prod.mk.injEq] at h this
            obtain ⟨rfl, rfl⟩ := h
            exact this
          | false =>
            rw [hfl] at h this
            simp only [Bool.false_eq_true, if_false, Option.some.injEq, Prod.mk.injEq] at h this
            obtain ⟨rfl, rfl⟩ := h
            exact this
        · cases h
      · exact (ev_no h).elim
    · rename_i e hs hd
      split at h
      · rename_i he
        exact snd_b2s hI hs (isU8_spec he) hd h1 h
      · exact (ev_no h).elim
    · rename_i e' e hs hd
      split at h
      · rename_i he
        simp only [Bool.and_eq_true, beq_iff_eq] at he
        obtain ⟨rfl, he, hmk⟩ := he
        rw [hs] at hd
        cases hd
        simp only [evalOp] at h
        split at h
        · rename_i k sz n cs hp
          split at h
          · rename_i hk
            split at h
            · rename_i hn
              cases h
              rw [hp] at h1
              exact snd_frz hmk hI hs (isU8_spec he) h1 hk hn
            · cases h
          · cases h
        · cases h
      · exact (ev_no h).elim
    · exact (ev_no h).elim
  case slice T x lo hi mx =>
    have h1 := hx x
    split at h
    · rename_i hT
      simp only [evalOp] at h
      split at h
      · rename_i l hl
        rw [hl] at h1
        simp only [RV] at h1
        split at h
        · rename_i hh e1
          split at h
          · rename_i b e2
            split at h
            · rename_i hle
              cases h
              simp only [execOp, h1, Option.map_none]
              exact snd_cut_str hI hx hT e1 e2 hle.1
            · cases h
          · cases h
        · cases h
      · rename_i t sz n cs hl
        split at h
        · rename_i hh e1
          split at h
          · rename_i b e2
            split at h
            · rename_i hle
              omega
            · cases h
          · cases h
        · cases h
      · split at h
        · split at h
          · split at h
            · rename_i hle
              omega
            · cases h
          · cases h
        · cases h
      · cases h
    · rename_i e hT
      split at h
      · rename_i i hi
        split at h
        · rename_i h0
          simp only [evalOp] at h
          split at h
          · split at h
            · split at h
              · split at h
                · rename_i hle
                  omega
                · cases h
              · cases h
            · cases h
          · rename_i t sz n cs hl
            rw [hl] at h1
            split at h
            · rename_i hh e1
              split at h
              · rename_i b e2
                split at h
                · rename_i hle
                  cases h
                  exact snd_cut_sl hI hx hT hi h1 e1 e2 hle.1 hle.2.1
                · cases h
              · cases h
            · cases h
          · rename_i id off sz n hl
            rw [hl] at h1
            split at h
            · rename_i hh e1
              split at h
              · rename_i b e2
                split at h
                · rename_i hle
                  cases h
                  exact snd_cut_row hI hx hT hi h1 e1 e2 hle.1 hle.2.1
                · cases h
              · cases h
            · cases h
          · cases h
        · exact (ev_no h).elim
      · exact (ev_no h).elim
    · rename_i m e hT
      split at h
      · rename_i hz
        simp only [Bool.and_eq_true, Option.isNone_iff_eq_none] at hz
        obtain ⟨⟨rfl, hz2⟩, hz3⟩ := hz
        cases hi with
        | none => simp at hz2
        | some y =>
          simp only [Option.any_some] at hz2
          obtain ⟨k, hk⟩ := isZ_eval hz2 a
          obtain ⟨k', hk'⟩ := isZ_eval hz3 a
          split at h
          · rename_i i hi
            simp only [execOp, Option.map_none, Option.map_some, hk, hk']
            exact snd_cut0 hI hT hi h1 h
          · exact (ev_no h).elim
      · exact (ev_no h).elim
    · exact (ev_no h).elim
  case fieldAddr S x f =>
    split at h
    · rename_i fields hS
      split at h
      · rename_i fd hf
        split at h
        · rename_i i hi
          split at h
          · rename_i h0
            simp only [evalOp] at h
            exact snd_fad hI hS hf hi h0 (hx x) h
          · exact (ev_no h).elim
        · exact (ev_no h).elim
      · exact (ev_no h).elim
    · exact (ev_no h).elim
  case indexAddr T x i =>
    split at h
    · rename_i e hT
      split at h
      · rename_i ie hi
        simp only [evalOp] at h
        exact snd_iad hI hT hi (hx x) (hx i) h
      · exact (ev_no h).elim
    · rename_i len e hT
      split at h
      · rename_i ie hi
        simp only [evalOp] at h
        exact snd_iaa hI hT hi (hx x) (hx i) h
      · exact (ev_no h).elim
    · exact (ev_no h).elim
  case field T x f =>
    split at h
    · rename_i fields hT
      split at h
      · rename_i fd hf
        split at h
        · rename_i d ti hd hi
          simp only [evalOp] at h
          split at h
          · rename_i cs hcs
            split at h
            · rename_i p hp
              cases h
              exact snd_prt hI hT hf hd hi (by have := hx x; rwa [hcs] at this) hp
            · cases h
          · cases h
        · exact (ev_no h).elim
      · exact (ev_no h).elim
    · exact (ev_no h).elim
  case index T x i =>
    split at h
    · rename_i hT
      simp only [evalOp] at h
      have h1 := hx x
      have h2 := hx i
      split at h
      · rename_i l k z hl hz
        rw [hl] at h1
        rw [hz] at h2
        simp only [RV] at h1 h2
        split at h
        · rename_i h0
          split at h
          · rename_i c hc'
            cases h
            simp only [execOp, h1, h2]
            exact snd_idx hI hT h0 hc'
          · cases h
        · cases h
      · cases h
    · exact (ev_no h).elim
  case extract t ix =>
    simp only [evalOp] at h
    have h1 := hx t
    split at h
    · rename_i vs hv
      rw [hv] at h1
      split at h
      · rename_i p hp
        cases h
        exact snd_ext hI h1 hp
      · cases h
    · cases h
  case makeFunc fn first caps =>
    cases fn <;> simp only at h <;> (try exact (ev_no h).elim)
    split at h
    · rename_i hf
      simp only [evalOp, Option.some.injEq, Prod.mk.injEq] at h
      obtain ⟨rfl, rfl⟩ := h
      exact snd_clo hI hx hf
    · exact (ev_no h).elim
  case call c =>
    obtain ⟨callee, args, argTypes⟩ := c
    cases callee with
    | value f => cases f <;> simp only at hc <;> (try split at hc) <;> simp [COp.calls] at hc
    | invoke rv m => exact (ev_no h).elim
    | builtin b =>
      cases b <;> simp only at h <;> (try exact (ev_no h).elim)
      case len =>
        split at h
        · rename_i T x hT hargs
          have hargs' : args = #[x] := by cases args; simpa using hargs
          subst hargs'
          have h1 := hx x
          have hrun : execOp a.eval ⟨dst, .call ⟨.builtin .len, #[x], argTypes⟩, type, pos, after, guard⟩ = (do pure (Next.value (← Builtin.len_ argTypes type #[a.eval x]))) := by simp [execOp, resolve, invoke, builtin]
          rw [hrun]
          split at h
          · rename_i hs
            simp only [evalOp] at h
            split at h
            · rename_i l _ hl
              cases h
              rw [hl] at h1
              simp only [RV] at h1
              rw [h1]
              exact snd_len_str hI hs hT
            · rename_i h0 _; cases h0
            · rename_i h0 _; cases h0
            · cases h
          · rename_i e hs
            simp only [evalOp] at h
            split at h
            · rename_i h0 _; cases h0
            · rename_i t sz n cs _ hl
              cases h
              rw [hl] at h1
              obtain ⟨A, cap, hu, _⟩ := sl_RC h1
              rw [hu]
              exact snd_len_sl hI hs hT
            · rename_i id off sz n _ hl
              cases h
              rw [hl] at h1
              simp only [RV] at h1
              obtain ⟨_, _, _, _, _, _, hu, _⟩ := h1
              rw [hu]
              exact snd_len_sl hI hs hT
            · cases h
          · exact (ev_no h).elim
        · exact (ev_no h).elim
      case append =>
        split at h
        · rename_i T U x y hT hU0 hargs
          have hargs' : args = #[x, y] := by cases args; simpa using hargs
          subst hargs'
          have hrun : execOp a.eval ⟨dst, .call ⟨.builtin .append, #[x, y], argTypes⟩, type, pos, after, guard⟩ = (do pure (Next.value (← Builtin.append_ argTypes type #[a.eval x, a.eval y]))) := by simp [execOp, resolve, invoke, builtin]
          rw [hrun]
          split at h
          · rename_i e d ht hU
            split at h
            · rename_i hd
              split at h
              · rename_i i hi
                split at h
                · rename_i hc'
                  obtain ⟨hz, hpos, hb⟩ := hc'
                  have hz' : ∃ z, i.zero = some z ∧ z.cells.size = i.size := by
                    cases hzz : i.zero with
                    | none => rw [hzz] at hz; simp at hz
                    | some z => rw [hzz] at hz; exact ⟨z, rfl, by simpa using hz⟩
                  obtain ⟨z, hz1, hz2⟩ := hz'
                  split at h
                  · exact snd_appr hI ht hT hU0 hU hd hi hz1 hz2 hpos hb (hx x) (hx y) h
                  · exact snd_app hI ht hT hU0 hU hd hi hz1 hz2 hpos hb (hx x) (hx y) h
                · exact (ev_no h).elim
              · exact (ev_no h).elim
            · exact (ev_no h).elim
          · exact (ev_no h).elim
        · exact (ev_no h).elim
      case min =>
        split at h
        · rename_i x y hargs
          have hargs' : args = #[x, y] := by cases args; simpa using hargs
          subst hargs'
          have h1 := hx x
          have h2 := hx y
          simp only [evalOp] at h
          split at h
          · rename_i k m k' n h3 h4
            split at h
            · rename_i hk
              subst hk
              cases h
              rw [h3] at h1
              rw [h4] at h2
              simp only [RV] at h1 h2
              have hrun : execOp a.eval ⟨dst, .call ⟨.builtin .min, #[x, y], argTypes⟩, type, pos, after, guard⟩ = (do pure (Next.value (← Builtin.min_ argTypes type #[a.eval x, a.eval y]))) := by simp [execOp, resolve, invoke, builtin]
              rw [hrun, h1, h2]
              exact snd_min hI
            · cases h
          · cases h
        · exact (ev_no h).elim
      case max =>
        split at h
        · rename_i x y hargs
          have hargs' : args = #[x, y] := by cases args; simpa using hargs
          subst hargs'
          have h1 := hx x
          have h2 := hx y
          simp only [evalOp] at h
          split at h
          · rename_i k m k' n h3 h4
            split at h
            · rename_i hk
              subst hk
              cases h
              rw [h3] at h1
              rw [h4] at h2
              simp only [RV] at h1 h2
              have hrun : execOp a.eval ⟨dst, .call ⟨.builtin .max, #[x, y], argTypes⟩, type, pos, after, guard⟩ = (do pure (Next.value (← Builtin.max_ argTypes type #[a.eval x, a.eval y]))) := by simp [execOp, resolve, invoke, builtin]
              rw [hrun, h1, h2]
              exact snd_max hI
            · cases h
          · cases h
        · exact (ev_no h).elim
end
end Go.Proofs.YtnljpfjoboafoaaDoor.Ev
