/- What each operation of such a region does to the heap, in the order of the text and in any other. -/
import Derived.Test.YtnljpfjoboafoaaDoorEvD
namespace Go.Proofs.YtnljpfjoboafoaaDoor.Ev
set_option linter.all false
open Go Go.RowKit

section
variable {P : Program} {call : Nat → List PV → Hp → Option (PV × Hp)} {Q : Exit → Act → World → Prop} {ops : Array Oper} {cops : List CO} {B : List Nat} {T : Nat → List PV} {G : Nat → Hp} {val : Nat → PV} {L : Nat → Bool} {j : Nat} {cj : CO}

theorem evalOp_read2 {tm : List PV} {H H' : Hp} {o : COp} {r : PV} (hw : o.wr = false) (h : evalOp call tm H o = some (r, H')) : H' = H ∧ (∀ x ∈ o.rd, ∀ id, (x.ev tm).id? = some id → id < H.length) ∧
    ∀ H2 : Hp, (∀ x ∈ o.rd, ∀ id, (x.ev tm).id? = some id → H2[id]? = H[id]?) → evalOp call tm H2 o = some (r, H2) := by
  cases o <;> simp only [COp.wr, reduceCtorEq] at hw
  case load agg n a =>
    simp only [evalOp] at h
    split at h
    · rename_i id off hp
      split at h
      · rename_i cs hcs
        split at h
        · rename_i p hof
          cases h
          refine ⟨rfl, fun x hm id' e => ?_, fun H2 hx => ?_⟩
          · simp only [COp.rd, List.mem_singleton] at hm
            subst hm
            rw [hp] at e
            cases e
            exact (List.getElem?_eq_some_iff.1 hcs).1
          have := hx a (by simp [COp.rd]) id (by rw [hp]; rfl)
          simp only [evalOp, hp, this, hcs, hof]
        · cases h
      · cases h
    · rename_i cs off hp
      split at h
      · rename_i p hof
        cases h
        refine ⟨rfl, fun x hm id' e => ?_, fun H2 _ => by simp only [evalOp, hp, hof]⟩
        simp only [COp.rd, List.mem_singleton] at hm
        subst hm
        rw [hp] at e
        cases e
      · cases h
    · cases h
  case b2s x =>
    simp only [evalOp] at h
    split at h
    · rename_i t n cs hp
      split at h
      · cases h
        rename_i h0
        refine ⟨rfl, fun x hm id' e => ?_, fun H2 _ => by simp only [evalOp, hp]; rw [if_pos h0]⟩
        simp only [COp.rd, List.mem_singleton] at hm
        subst hm
        rw [hp] at e
        cases e
      · rename_i h0
        split at h
        · rename_i hsz
          split at h
          · rename_i l hl
            cases h
            refine ⟨rfl, fun x hm id' e => ?_, fun H2 _ => by simp only [evalOp, hp]; rw [if_neg h0, if_pos hsz, hl]⟩
            simp only [COp.rd, List.mem_singleton] at hm
            subst hm
            rw [hp] at e
            cases e
          · cases h
        · cases h
    · rename_i id off n hp
      split at h
      · rename_i cs hcs
        split at h
        · rename_i hn
          split at h
          · rename_i l hl
            cases h
            refine ⟨rfl, fun x' hm id' e => ?_, fun H2 hx => ?_⟩
            · simp only [COp.rd, List.mem_singleton] at hm
              subst hm
              rw [hp] at e
              cases e
              exact (List.getElem?_eq_some_iff.1 hcs).1
            have := hx x (by simp [COp.rd]) id (by rw [hp]; rfl)
            simp only [evalOp, hp, this, hcs]
            rw [if_pos hn, hl]
          · cases h
        · cases h
      · cases h
    · cases h
  case call refs keep f args =>
    simp only [Bool.or_eq_false_iff] at hw
    obtain ⟨rfl, rfl⟩ := hw
    simp only [evalOp, Bool.false_eq_true, if_false] at h
    split at h
    · rename_i r0 H1 hcl
      cases h
      exact ⟨rfl, fun x hm => (by cases hm), fun H2 _ => by simp only [evalOp, Bool.false_eq_true, if_false, hcl]⟩
    · cases h
  case callw keep x args =>
    subst hw
    simp only [evalOp, Bool.false_eq_true, if_false] at h
    split at h
    · rename_i f caps hf
      split at h
      · rename_i r0 H1 hcl
        cases h
        exact ⟨rfl, fun x hm => (by cases hm), fun H2 _ => by simp only [evalOp, Bool.false_eq_true, if_false, hf, hcl]⟩
      · cases h
    · cases h
  case lit keep sz n zs ps =>
    subst hw
    simp only [evalOp, Bool.false_eq_true, if_false] at h
    split at h
    · rename_i cs hf
      split at h
      · rename_i ds hd
        split at h
        · rename_i hl
          cases h
          exact ⟨rfl, fun x hm => (by cases hm), fun H2 _ => by simp only [evalOp, hf, hd]; rw [if_pos hl]; simp only [Bool.false_eq_true, if_false]⟩
        · cases h
      · cases h
    · cases h
  all_goals
    refine ⟨?_, fun x hm => (by cases hm), fun H2 _ => ?_⟩ <;> simp only [evalOp] at h ⊢ <;> (repeat' split at h) <;> first | (cases h; done) | (cases h; rfl) | (cases h; simp_all; done) | (cases h; simp_all; omega)

inductive Eff where
  | no | al (cs : List PV) | st (id : Nat) (cs : List PV)
/-- What an operation has done, in the order of the text. -/
def EffAt (c : CO) (t : List PV) (h : Hp) (t' : List PV) (h' : Hp) : Eff → Prop
  | .no => h' = h ∧ (c.op.wr = false ∨ wantP t c.g = some false)
  | .al cs => h' = h ++ [.cells cs] ∧ wantP t c.g = some true ∧ t' = putP t c.dst (.ptr h.length 0) ∧ c.op.fresh = true ∧ (c.op = .alloc cs ∨ ∃ x, c.op = .box x ∧ (x.ev t).cells? = some cs)
  | .st id cs => ∃ m a v off vc cs0, c.op = .store m a v ∧ wantP t c.g = some true ∧ t' = putP t c.dst .und ∧ a.ev t = .ptr id off ∧ (v.ev t).cells? = some vc ∧ h[id]? = some (.cells cs0) ∧ vc.length = m ∧ off + m ≤ cs0.length ∧ cs = cs0.take off ++ vc ++ cs0.drop (off + m) ∧ h' = h.set id (.cells cs)
theorem eff_of {c : CO} {t t' : List PV} {h h' : Hp} (he : c.op.easy = true) (hev : evO call c t h = some (t', h')) : ∃ e, EffAt c t h t' h' e := by
  unfold evO at hev
  split at hev
  · rename_i hw
    split at hev
    · rename_i r H' hop
      simp only [Option.some.injEq, Prod.mk.injEq] at hev
      obtain ⟨rfl, rfl⟩ := hev
      cases hwr : c.op.wr with
      | false => exact ⟨.no, (evalOp_read2 hwr hop).1, .inl hwr⟩
      | true =>
        obtain ⟨dst, op, gd⟩ := c
        simp only at hop hwr he hw ⊢
        simp only [COp.easy, hwr, Bool.not_true, Bool.or_false, Bool.or_eq_true] at he
        cases op <;> simp only [COp.fresh, COp.isSt, Bool.false_eq_true, or_self] at he
        case alloc zs =>
          simp only [evalOp, Option.some.injEq, Prod.mk.injEq] at hop
          obtain ⟨rfl, rfl⟩ := hop
          exact ⟨.al zs, rfl, hw, rfl, rfl, .inl rfl⟩
        case box x =>
          simp only [evalOp] at hop
          split at hop
          · rename_i cs hcs
            cases hop
            exact ⟨.al cs, rfl, hw, rfl, rfl, .inr ⟨x, rfl, hcs⟩⟩
          · cases hop
        case store m a v =>
          simp only [evalOp] at hop
          split at hop
          · rename_i id off vc ha hv
            split at hop
            · rename_i cs0 hcs
              split at hop
              · rename_i hc
                cases hop
                exact ⟨.st id _, m, a, v, off, vc, cs0, rfl, hw, rfl, ha, hv, hcs, hc.1, hc.2, rfl, rfl⟩
              · cases hop
            · cases hop
          · cases hop
    · cases hev
  · rename_i hw
    simp only [Option.some.injEq, Prod.mk.injEq] at hev
    exact ⟨.no, hev.2.symm, .inr hw⟩
  · cases hev

/-- The entries that are still to be made. -/
def pads (e : Nat → Eff) : Nat → Nat → Hp
  | _, 0 => []
  | i, m + 1 => (match e i with | .al cs => [.cells cs] | _ => []) ++ pads e (i + 1) m
/-- The heap with what has come up of the first k. -/
def hF (H0 : Hp) (e : Nat → Eff) (n : Nat) (L : Nat → Bool) : Nat → Hp
  | 0 => H0 ++ pads e 0 n
  | k + 1 => match e k with
    | .st id cs => if L k then (hF H0 e n L k).set id (.cells cs) else hF H0 e n L k
    | _ => hF H0 e n L k
structure Effs (cops : List CO) (T : Nat → List PV) (G : Nat → Hp) (e : Nat → Eff) : Prop where
  at_ : ∀ (i : Nat) c, cops[i]? = some c → EffAt c (T i) (G i) (T (i + 1)) (G (i + 1)) (e i)
theorem effs_of (hr : Run call cops T G val) (he : ∀ (i : Nat) c, cops[i]? = some c → c.op.easy = true) : ∃ e, Effs cops T G e := by
  have h : ∀ i, ∃ e, ∀ c, cops[i]? = some c → EffAt c (T i) (G i) (T (i + 1)) (G (i + 1)) e := fun i => by
    cases hc : cops[i]? with
    | none => exact ⟨.no, fun c h => by cases h⟩
    | some c =>
      obtain ⟨e, h⟩ := eff_of (he i c hc) (hr.step i c hc)
      exact ⟨e, fun c' h' => by cases h'; exact h⟩
  exact ⟨fun i => (h i).choose, ⟨fun i c hc => (h i).choose_spec c hc⟩⟩
variable {e : Nat → Eff}
def GF (G : Nat → Hp) (e : Nat → Eff) (n k : Nat) : Hp := G k ++ pads e k (n - k)
theorem GF_succ (hE : Effs cops T G e) {k : Nat} (hk : k < cops.length) : GF G e cops.length (k + 1) = match e k with | .st id cs => (GF G e cops.length k).set id (.cells cs) | _ => GF G e cops.length k := by
  have h := hE.at_ k _ (List.getElem?_eq_getElem hk)
  have hp : cops.length - k = (cops.length - (k + 1)) + 1 := by omega
  unfold GF
  rw [hp]
  cases he : e k with
  | no => rw [he] at h; simp only [pads, he, List.nil_append]; rw [h.1]
  | al cs => rw [he] at h; simp only [pads, he]; rw [h.1, List.append_assoc]
  | st id cs =>
    rw [he] at h
    obtain ⟨m, a, v, off, vc, cs0, _, _, _, _, _, h6, _, _, _, h10⟩ := h
    simp only [pads, he, List.nil_append]
    rw [h10, List.set_append_left _ _ (List.getElem?_eq_some_iff.1 h6).1]
theorem hF_all (hE : Effs cops T G e) (hall : ∀ i, i < cops.length → L i = true) : ∀ k, k ≤ cops.length → hF (G 0) e cops.length L k = GF G e cops.length k
  | 0, _ => rfl
  | k + 1, hk => by
    rw [GF_succ hE (by omega)]
    have ih := hF_all hE hall k (by omega)
    simp only [hF, hall k (by omega), if_true]
    cases e k with
    | no => exact ih
    | al cs => exact ih
    | st id cs => simp only; rw [ih]
theorem GF_last (G : Nat → Hp) (e : Nat → Eff) (n : Nat) : GF G e n n = G n := by simp [GF, pads]
theorem hF_len (H0 : Hp) (e : Nat → Eff) (n : Nat) (L : Nat → Bool) : ∀ k, (hF H0 e n L k).length = (H0 ++ pads e 0 n).length
  | 0 => rfl
  | k + 1 => by
    simp only [hF]
    cases e k with
    | no => exact hF_len H0 e n L k
    | al cs => exact hF_len H0 e n L k
    | st id cs =>
      simp only
      split
      · rw [List.length_set]; exact hF_len H0 e n L k
      · exact hF_len H0 e n L k
theorem G_len (hE : Effs cops T G e) : ∀ m k, k + m ≤ cops.length → (G k).length ≤ (G (k + m)).length
  | 0, k, _ => Nat.le_refl _
  | m + 1, k, hk => by
    have h := hE.at_ (k + m) _ (List.getElem?_eq_getElem (by omega))
    refine Nat.le_trans (G_len hE m k (by omega)) ?_
    rw [← Nat.add_assoc]
    cases he : e (k + m) with
    | no => rw [he] at h; rw [h.1]; exact Nat.le_refl _
    | al cs => rw [he] at h; rw [h.1]; simp
    | st id cs =>
      rw [he] at h
      obtain ⟨_, _, _, _, _, _, _, _, _, _, _, _, _, _, _, h10⟩ := h
      rw [h10]; simp
/-- An entry that no unordered store touches. -/
theorem hF_at (hE : Effs cops T G e) (hj : j ≤ cops.length) (hu : L j = false) {id : Nat} (h1 : ∀ k id' cs', k < j → L k = false → e k = .st id' cs' → id' ≠ id) (h2 : ∀ k id' cs', j < k → k < cops.length → L k = true → e k = .st id' cs' → id' ≠ id) :
    (hF (G 0) e cops.length L cops.length)[id]? = (GF G e cops.length j)[id]? := by
  have ahead : ∀ k, k ≤ j → (hF (G 0) e cops.length L k)[id]? = (GF G e cops.length k)[id]? := fun k => by
    induction k with
    | zero => intro _; rfl
    | succ k ih =>
      intro hk
      have ih := ih (by omega)
      have hlen : (hF (G 0) e cops.length L k).length = (GF G e cops.length k).length := by
        rw [hF_len, ← hF_all hE (L := fun _ => true) (fun _ _ => rfl) k (by omega), hF_len]
      rw [GF_succ hE (by omega)]
      simp only [hF]
      cases hek : e k with
      | no => exact ih
      | al cs => exact ih
      | st id' cs =>
        simp only
        cases hLk : L k with
        | true =>
          simp only [if_true]
          by_cases hid : id' = id
          · subst hid
            rw [List.getElem?_set_self', List.getElem?_set_self', ih]
          · rw [List.getElem?_set_ne hid, List.getElem?_set_ne hid, ih]
        | false =>
          simp only [Bool.false_eq_true, if_false]
          rw [List.getElem?_set_ne (h1 k id' cs (by omega) hLk hek), ih]
  have behind : ∀ m, j + m ≤ cops.length → (hF (G 0) e cops.length L (j + m))[id]? = (hF (G 0) e cops.length L j)[id]? := fun m => by
    induction m with
    | zero => intro _; rfl
    | succ m ih =>
      intro hk
      have ih := ih (by omega)
      rw [← Nat.add_assoc]
      simp only [hF]
      cases hek : e (j + m) with
      | no => exact ih
      | al cs => exact ih
      | st id' cs =>
        simp only
        cases hLk : L (j + m) with
        | true =>
          simp only [if_true]
          have hne : m ≠ 0 := fun h0 => by subst h0; rw [Nat.add_zero, hu] at hLk; cases hLk
          rw [List.getElem?_set_ne (h2 _ id' cs (by omega) (by omega) hLk hek), ih]
        | false => simp only [Bool.false_eq_true, if_false]; exact ih
  have := behind (cops.length - j) (by omega)
  rw [show j + (cops.length - j) = cops.length by omega] at this
  rw [this, ahead j (Nat.le_refl _)]
theorem hF_upd_no (hn : ∀ id cs, e j ≠ .st id cs) {H0 : Hp} {n : Nat} : ∀ k, hF H0 e n (updL L j) k = hF H0 e n L k
  | 0 => rfl
  | k + 1 => by
    have ih := hF_upd_no hn (H0 := H0) (n := n) k
    simp only [hF]
    cases hek : e k with
    | no => exact ih
    | al cs => exact ih
    | st id cs =>
      have hk : k ≠ j := fun h => hn id cs (by rw [← h]; exact hek)
      simp only
      rw [updL_ne hk, ih]
theorem hF_upd_ahead {H0 : Hp} {n : Nat} : ∀ k, k ≤ j → hF H0 e n (updL L j) k = hF H0 e n L k
  | 0, _ => rfl
  | k + 1, hk => by
    have ih := hF_upd_ahead (H0 := H0) (n := n) k (by omega)
    simp only [hF]
    rw [updL_ne (by omega), ih]
theorem hF_upd_st (hu : L j = false) (hj : j < cops.length) {id : Nat} {cs : List PV} (hs : e j = .st id cs) (h2 : ∀ k id' cs', j < k → k < cops.length → L k = true → e k = .st id' cs' → id' ≠ id) {H0 : Hp} :
    hF H0 e cops.length (updL L j) cops.length = (hF H0 e cops.length L cops.length).set id (.cells cs) := by
  have key : ∀ m, j + 1 + m ≤ cops.length → hF H0 e cops.length (updL L j) (j + 1 + m) = (hF H0 e cops.length L (j + 1 + m)).set id (.cells cs) := fun m => by
    induction m with
    | zero =>
      intro _
      simp only [Nat.add_zero, hF, hs, updL_self, if_true, hu, Bool.false_eq_true, if_false]
      rw [hF_upd_ahead j (Nat.le_refl _)]
    | succ m ih =>
      intro hk
      have ih := ih (by omega)
      rw [← Nat.add_assoc]
      simp only [hF]
      cases hek : e (j + 1 + m) with
      | no => exact ih
      | al cs => exact ih
      | st id' cs' =>
        simp only
        rw [updL_ne (by omega)]
        cases hLk : L (j + 1 + m) with
        | true =>
          simp only [if_true]
          rw [ih, List.set_comm _ _ (Ne.symm (h2 _ id' cs' (by omega) (by omega) hLk hek))]
        | false => simp only [Bool.false_eq_true, if_false]; exact ih
  have := key (cops.length - (j + 1)) (by omega)
  rwa [show j + 1 + (cops.length - (j + 1)) = cops.length by omega] at this
end
end Go.Proofs.YtnljpfjoboafoaaDoor.Ev
