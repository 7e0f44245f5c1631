/- Regions that draw their order: the theorem. -/
import Derived.Test.YtnljpfjoboafoaaDoorEv17
namespace Go.Proofs.YtnljpfjoboafoaaDoor.Ev
set_option linter.all false
open Go Go.RowKit

theorem getD_tf {l : Array Bool} {i : Nat} (h : i < l.size) (b c : Bool) : l.getD i b = l.getD i c := by
  simp [Array.getD_eq_getD_getElem?, h]

section
variable {P : Program} {call : Nat → List PV → Hp → Option (PV × Hp)} {Q : Exit → Act → World → Prop} {cops : List CO} {B : List Nat} {T : Nat → List PV} {G : Nat → Hp} {val : Nat → PV} {L : Nat → Bool} {j : Nat} {cj : CO}

theorem Run.same (hr : Run call cops T G val) {i : Nat} (hi : i < cops.length) (hw : wrAt cops i = false) : G (i + 1) = G i := by
  have hc : cops[i]? = some cops[i] := List.getElem?_eq_getElem hi
  have hw' : cops[i].op.wr = false := by simpa [wrAt, hc] using hw
  have h := hr.step i _ hc
  unfold evO at h
  split at h
  · split at h
    · rename_i r H' he
      obtain ⟨h1, _⟩ := evalOp_read hw' he
      simp only [Option.some.injEq, Prod.mk.injEq] at h
      rw [← h.2, h1]
    · cases h
  · simp only [Option.some.injEq, Prod.mk.injEq] at h; exact h.2.symm
  · cases h
theorem Run.push (hr : Run call cops T G val) {i : Nat} {c : CO} (hc : cops[i]? = some c) (hs : c.op.st = false) : (G i).length ≤ (G (i + 1)).length ∧ ∀ (id : Nat) cs, id < (G i).length → ((G (i + 1))[id]? = some (.cells cs) ↔ (G i)[id]? = some (.cells cs)) := by
  have h := hr.step i _ hc
  unfold evO at h
  split at h
  · split at h
    · rename_i r H' he
      have := evalOp_push hs he
      simp only [Option.some.injEq, Prod.mk.injEq] at h
      rw [← h.2]; exact this
    · cases h
  · simp only [Option.some.injEq, Prod.mk.injEq] at h; rw [← h.2]; exact ⟨Nat.le_refl _, fun _ _ _ => Iff.rfl⟩
  · cases h

/-- What is known of an operation that may come up now. -/
structure May (cops : List CO) (B : List Nat) (L : Nat → Bool) (j : Nat) (cj : CO) : Prop where
  at_ : cops[j]? = some cj
  un : L j = false
  pre : ∀ i, i < j → orderedB B i j = true → L i = true
  post : ∀ i, j < i → L i = true → orderedB B j i = false
  ok : drawOk B cops = true

theorem May.lt (h : May cops B L j cj) : j < cops.length := (List.getElem?_eq_some_iff.1 h.at_).1
/-- An unlisted one ahead of it doesn't meet it. -/
theorem May.ahead (h : May cops B L j cj) {i : Nat} {c : CO} (hc : cops[i]? = some c) (hlt : i < j) (hu : L i = false) : apartB c cj = true :=
  drawOk_spec h.ok hc h.at_ hlt (by cases ho : orderedB B i j with | false => rfl | true => rw [h.pre i hlt ho] at hu; cases hu)
/-- A listed one behind it doesn't meet it. -/
theorem May.behind (h : May cops B L j cj) {i : Nat} {c : CO} (hc : cops[i]? = some c) (hlt : j < i) (hl : L i = true) : apartB cj c = true := drawOk_spec h.ok h.at_ hc hlt (h.post i hlt hl)
theorem dstAt_eq {i : Nat} {c : CO} (h : cops[i]? = some c) : dstAt cops i = c.dst := by simp [dstAt, h]
theorem wrAt_eq {i : Nat} {c : CO} (h : cops[i]? = some c) : wrAt cops i = c.op.wr := by simp [wrAt, h]

theorem Run.T_length (hr : Run call cops T G val) : ∀ k, k ≤ cops.length → (T k).length = (T 0).length
  | 0, _ => rfl
  | k + 1, hk => by
    rw [hr.put k _ (List.getElem?_eq_getElem (show k < cops.length by omega)), putP_length, hr.T_length k (by omega)]

theorem sL_ahead (hr : Run call cops T G val) (hm : May cops B L j cj) {t : Nat} (ht : t ∈ cj.slots) : ∀ k, k ≤ j → (sL cops (T 0) val L k).getD t .bot = (T k).getD t .bot
  | 0, _ => rfl
  | k + 1, hk => by
    have hlt := hm.lt
    have hc : cops[k]? = some cops[k] := List.getElem?_eq_getElem (by omega)
    have ih := sL_ahead hr hm ht k (by omega)
    rw [hr.put k _ hc]
    simp only [sL]
    cases hL : L k with
    | true =>
      simp only [if_true, dstAt_eq hc]
      by_cases hd : (cops[k]).dst = some t
      · rw [hd]
        exact putP_self (by rw [sL_length, hr.T_length k (by omega)])
      · rw [putP_getD hd, putP_getD hd, ih]
    | false =>
      simp only [Bool.false_eq_true, if_false]
      have hap := apartB_spec (hm.ahead hc (by omega) hL)
      rw [putP_getD (fun hd => hap.1 t hd ht), ih]
theorem sL_behind (hm : May cops B L j cj) {tm : List PV} {t : Nat} (ht : t ∈ cj.slots) : ∀ m, j + m ≤ cops.length → (sL cops tm val L (j + m)).getD t .bot = (sL cops tm val L j).getD t .bot
  | 0, _ => rfl
  | m + 1, hk => by
    have hc : cops[j + m]? = some cops[j + m] := List.getElem?_eq_getElem (by omega)
    rw [← Nat.add_assoc]
    simp only [sL]
    cases hL : L (j + m) with
    | true =>
      have hne : m ≠ 0 := fun h0 => by subst h0; rw [Nat.add_zero, hm.un] at hL; cases hL
      have hap := apartB_spec (hm.behind hc (by omega) hL)
      simp only [if_true, dstAt_eq hc]
      rw [putP_getD (fun hd => hap.2.2.1 t hd ht), sL_behind hm ht m (by omega)]
    | false =>
      simp only [Bool.false_eq_true, if_false]
      exact sL_behind hm ht m (by omega)
theorem sL_slots (hr : Run call cops T G val) (hm : May cops B L j cj) {t : Nat} (ht : t ∈ cj.slots) : (sL cops (T 0) val L cops.length).getD t .bot = (T j).getD t .bot := by
  have hlt := hm.lt
  have h1 := sL_behind (val := val) hm (tm := T 0) ht (cops.length - j) (by omega)
  rw [show j + (cops.length - j) = cops.length by omega] at h1
  rw [h1, sL_ahead hr hm ht j (Nat.le_refl _)]

def updL (L : Nat → Bool) (j : Nat) : Nat → Bool := fun i => i == j || L i
theorem updL_self : updL L j j = true := by simp [updL]
theorem updL_ne {i : Nat} (h : i ≠ j) : updL L j i = L i := by simp [updL, h]
theorem sL_upd_ahead {tm : List PV} : ∀ k, k ≤ j → sL cops tm val (updL L j) k = sL cops tm val L k
  | 0, _ => rfl
  | k + 1, hk => by simp only [sL]; rw [updL_ne (by omega), sL_upd_ahead k (by omega)]
theorem sL_upd (hm : May cops B L j cj) {tm : List PV} : sL cops tm val (updL L j) cops.length = putP (sL cops tm val L cops.length) cj.dst (val j) := by
  have hlt := hm.lt
  have key : ∀ m, j + 1 + m ≤ cops.length → sL cops tm val (updL L j) (j + 1 + m) = putP (sL cops tm val L (j + 1 + m)) cj.dst (val j) := fun m => by
    induction m with
    | zero =>
      intro _
      simp only [Nat.add_zero, sL]
      rw [updL_self, if_pos rfl, hm.un, if_neg (by simp), sL_upd_ahead j (Nat.le_refl _), dstAt_eq hm.at_]
    | succ m ih =>
      intro hk
      have ih := ih (by omega)
      have hc : cops[j + 1 + m]? = some cops[j + 1 + m] := List.getElem?_eq_getElem (by omega)
      rw [← Nat.add_assoc]
      simp only [sL]
      rw [updL_ne (by omega)]
      cases hL : L (j + 1 + m) with
      | true =>
        have hap := apartB_spec (hm.behind hc (by omega) hL)
        simp only [if_true, dstAt_eq hc]
        rw [ih, putP_comm hap.2.1]
      | false =>
        simp only [Bool.false_eq_true, if_false]
        exact ih
  have := key (cops.length - (j + 1)) (by omega)
  rwa [show j + 1 + (cops.length - (j + 1)) = cops.length by omega] at this

theorem hL_ahead (hr : Run call cops T G val) (hm : May cops B L j cj) (hw : cj.op.wr = true) : ∀ k, k ≤ j → hL cops (G 0) G L k = G k
  | 0, _ => rfl
  | k + 1, hk => by
    have hlt := hm.lt
    have hc : cops[k]? = some cops[k] := List.getElem?_eq_getElem (by omega)
    have ih := hL_ahead hr hm hw k (by omega)
    simp only [hL]
    cases hwk : wrAt cops k with
    | false => simp only [Bool.and_false, Bool.false_eq_true, if_false]; rw [ih, hr.same (by omega) hwk]
    | true =>
      cases hLk : L k with
      | true => simp
      | false =>
        have hap := apartB_spec (hm.ahead hc (by omega) hLk)
        exact absurd ⟨by rw [← wrAt_eq hc]; exact hwk, hw⟩ hap.2.2.2.1
theorem hL_behind (hm : May cops B L j cj) (hw : cj.op.wr = true) {H : Hp} : ∀ m, j + m ≤ cops.length → hL cops H G L (j + m) = hL cops H G L j
  | 0, _ => rfl
  | m + 1, hk => by
    have hc : cops[j + m]? = some cops[j + m] := List.getElem?_eq_getElem (by omega)
    rw [← Nat.add_assoc]
    simp only [hL]
    cases hLm : L (j + m) with
    | true =>
      have hne : m ≠ 0 := fun h0 => by subst h0; rw [Nat.add_zero, hm.un] at hLm; cases hLm
      have hap := apartB_spec (hm.behind hc (by omega) hLm)
      have hw' : wrAt cops (j + m) = false := by
        rw [wrAt_eq hc]
        cases hx : (cops[j + m]).op.wr with
        | false => rfl
        | true => exact absurd ⟨hw, hx⟩ hap.2.2.2.1
      simp only [hw', Bool.and_false, Bool.false_eq_true, if_false]
      exact hL_behind hm hw m (by omega)
    | false => simp only [Bool.false_and, Bool.false_eq_true, if_false]; exact hL_behind hm hw m (by omega)
theorem hL_at (hr : Run call cops T G val) (hm : May cops B L j cj) (hw : cj.op.wr = true) : hL cops (G 0) G L cops.length = G j := by
  have hlt := hm.lt
  have := hL_behind (G := G) hm hw (H := G 0) (cops.length - j) (by omega)
  rw [show j + (cops.length - j) = cops.length by omega] at this
  rw [this, hL_ahead hr hm hw j (Nat.le_refl _)]
theorem hL_upd_wr (hm : May cops B L j cj) (hw : cj.op.wr = true) {H : Hp} : hL cops H G (updL L j) cops.length = G (j + 1) := by
  have hlt := hm.lt
  have key : ∀ m, j + 1 + m ≤ cops.length → hL cops H G (updL L j) (j + 1 + m) = G (j + 1) := fun m => by
    induction m with
    | zero => intro _; simp only [Nat.add_zero, hL]; rw [updL_self, wrAt_eq hm.at_, hw]; rfl
    | succ m ih =>
      intro hk
      have ih := ih (by omega)
      have hc : cops[j + 1 + m]? = some cops[j + 1 + m] := List.getElem?_eq_getElem (by omega)
      rw [← Nat.add_assoc]
      simp only [hL]
      rw [updL_ne (by omega)]
      cases hLm : L (j + 1 + m) with
      | true =>
        have hap := apartB_spec (hm.behind hc (by omega) hLm)
        have hw' : wrAt cops (j + 1 + m) = false := by
          rw [wrAt_eq hc]
          cases hx : (cops[j + 1 + m]).op.wr with
          | false => rfl
          | true => exact absurd ⟨hw, hx⟩ hap.2.2.2.1
        simp only [hw', Bool.and_false, Bool.false_eq_true, if_false]
        exact ih
      | false => simp only [Bool.false_and, Bool.false_eq_true, if_false]; exact ih
  have := key (cops.length - (j + 1)) (by omega)
  rwa [show j + 1 + (cops.length - (j + 1)) = cops.length by omega] at this
theorem hL_upd_rd (hm : May cops B L j cj) (hw : cj.op.wr = false) {H : Hp} (k : Nat) : hL cops H G (updL L j) k = hL cops H G L k := by
  induction k with
  | zero => rfl
  | succ k ih =>
    simp only [hL]
    by_cases hk : k = j
    · rw [hk] at ih ⊢
      rw [wrAt_eq hm.at_, hw]
      simp only [Bool.and_false, Bool.false_eq_true, if_false]
      exact ih
    · rw [updL_ne hk, ih]

/-- What an operation that writes nothing reads is there, whatever has come up. -/
theorem hL_cells (hr : Run call cops T G val) (hm : May cops B L j cj) (hnc : cj.op.calm = false) (hwj : cj.op.wr = false) (hcl : ∀ m i, orderedB B m i = true → L i = true → L m = true) : CellsLe (G j) (hL cops (G 0) G L cops.length) := by
  have hlt := hm.lt
  have ahead : ∀ k, k ≤ j → (hL cops (G 0) G L k).length ≤ (G k).length ∧ CellsLe (G k) (hL cops (G 0) G L k) := fun k => by
    induction k with
    | zero => intro _; exact ⟨Nat.le_refl _, fun id cs h _ => h⟩
    | succ k ih =>
      intro hk
      obtain ⟨ih1, ih2⟩ := ih (by omega)
      have hc : cops[k]? = some cops[k] := List.getElem?_eq_getElem (by omega)
      simp only [hL]
      cases hwk : wrAt cops k with
      | false => simp only [Bool.and_false, Bool.false_eq_true, if_false]; rw [hr.same (by omega) hwk]; exact ⟨ih1, ih2⟩
      | true =>
        cases hLk : L k with
        | true => simp only [Bool.and_true, if_true]; exact ⟨Nat.le_refl _, fun id cs h _ => h⟩
        | false =>
          have hap := apartB_spec (hm.ahead hc (by omega) hLk)
          obtain ⟨h1, h2⟩ := hr.push hc (hap.2.2.2.2.1 hnc)
          simp only [Bool.false_and, Bool.false_eq_true, if_false]
          exact ⟨Nat.le_trans ih1 h1, fun id cs h hl => ih2 id cs ((h2 id cs (by omega)).1 h) hl⟩
  -- behind it: what is listed there pushes, and all ahead of that, too
  have chain : ∀ i, j < i → i < cops.length → L i = true → wrAt cops i = true → ∀ m, j + m ≤ i + 1 → (G j).length ≤ (G (j + m)).length ∧ ∀ (id : Nat) (cs : List PV), (G j)[id]? = some (.cells cs) → (G (j + m))[id]? = some (.cells cs) := fun i hji hin hLi hwi m => by
    induction m with
    | zero => intro _; exact ⟨Nat.le_refl _, fun id cs h => h⟩
    | succ m ih =>
      intro hk
      obtain ⟨ih1, ih2⟩ := ih (by omega)
      have hc : cops[j + m]? = some cops[j + m] := List.getElem?_eq_getElem (by omega)
      rw [← Nat.add_assoc]
      cases hwm : wrAt cops (j + m) with
      | false => rw [hr.same (by omega) hwm]; exact ⟨ih1, ih2⟩
      | true =>
        have hs : (cops[j + m]).op.st = false := by
          rcases Nat.eq_zero_or_pos m with h0 | h0
          · subst h0
            have hci : cops[i]? = some cops[i] := List.getElem?_eq_getElem hin
            have := wr_st hwj
            have hcj : cops[j + 0] = cj := by
              have h2 := hm.at_
              rw [List.getElem?_eq_getElem hlt] at h2
              simpa using h2
            rw [hcj]; exact this
          · have hLm : L (j + m) = true := by
              rcases Nat.lt_or_ge (j + m) i with hmi | hmi
              · have hci : cops[i]? = some cops[i] := List.getElem?_eq_getElem hin
                cases ho : orderedB B (j + m) i with
                | true => exact hcl _ _ ho hLi
                | false =>
                  have hap := apartB_spec (drawOk_spec hm.ok hc hci hmi ho)
                  exact absurd ⟨by rw [← wrAt_eq hc]; exact hwm, by rw [← wrAt_eq hci]; exact hwi⟩ hap.2.2.2.1
              · have : j + m = i := by omega
                rw [this]; exact hLi
            exact (apartB_spec (hm.behind hc (by omega) hLm)).2.2.2.2.2 hnc
        obtain ⟨h1, h2⟩ := hr.push hc hs
        refine ⟨Nat.le_trans ih1 h1, fun id cs h => ?_⟩
        have h3 := ih2 id cs h
        exact (h2 id cs (List.getElem?_eq_some_iff.1 h3).1).2 h3
  have behind : ∀ m, j + m ≤ cops.length → CellsLe (G j) (hL cops (G 0) G L (j + m)) := fun m => by
    induction m with
    | zero => intro _; exact (ahead j (Nat.le_refl _)).2
    | succ m ih =>
      intro hk
      rw [← Nat.add_assoc]
      simp only [hL]
      cases hLm : L (j + m) with
      | false => simp only [Bool.false_and, Bool.false_eq_true, if_false]; exact ih (by omega)
      | true =>
        have hne : m ≠ 0 := fun h0 => by subst h0; rw [Nat.add_zero, hm.un] at hLm; cases hLm
        cases hwm : wrAt cops (j + m) with
        | false => simp only [Bool.and_false, Bool.false_eq_true, if_false]; exact ih (by omega)
        | true =>
          simp only [Bool.and_true, if_true]
          have := (chain (j + m) (by omega) (by omega) hLm hwm (m + 1) (by omega)).2
          exact fun id cs h _ => by rw [← Nat.add_assoc] at this; exact this id cs h
  have := behind (cops.length - j) (by omega)
  rwa [show j + (cops.length - j) = cops.length by omega] at this
end
end Go.Proofs.YtnljpfjoboafoaaDoor.Ev
