/- Bodies: an automaton, and that Check, the reference's Body, Stuff and Strip answer by it. -/
import Derived.Test.YtmfobcheeekmfaaDots
namespace Go.Proofs.Ytmfobcheeekmfaa.FA
set_option linter.unusedSimpArgs false
set_option linter.unnecessarySimpa false
set_option linter.unusedVariables false
open Go.RowKit Go.Proofs.YtmfobcheeekmfaaW.PrintWords Go.Proofs.YtmfobcheeekmfaaW.PrintLast Go.Proofs.YtmfobcheeekmfaaW.PrintMore

/-- 0: at a line's begin; 1: in a line; 2: behind a 13. -/
def au : List Int → Nat → Bool
  | [], s => s == 0
  | x :: r, s => if s = 2 then (if x = 10 then au r 0 else false) else if x = 13 then au r 2 else if x = 10 then false else au r 1
theorem au_clean : ∀ (l r : List Int) (s : Nat), Cl l → s ≠ 2 → au (l ++ r) s = au r (if l = [] then s else 1)
  | [], r, s, _, _ => by simp
  | x :: l, r, s, h, hs => by
    rw [List.cons_append]
    simp only [au]
    rw [if_neg hs, if_neg h.head.1, if_neg h.head.2, au_clean l r 1 h.tail (by decide)]
    simp
theorem au_line (l r : List Int) (h : Cl l) : au (l ++ 13 :: 10 :: r) 0 = au r 0 := by
  rw [au_clean l _ 0 h (by decide)]
  by_cases e : l = []
  · simp [e, au]
  · simp [e, au]
theorem au_join (r : List Int) : ∀ ls : List (List Int), (∀ l ∈ ls, Cl l) → au (join ls ++ r) 0 = au r 0
  | [], _ => rfl
  | l :: ls, h => by
    rw [show join (l :: ls) ++ r = l ++ 13 :: 10 :: (join ls ++ r) by simp [join_cons], au_line _ _ (h l List.mem_cons_self), au_join r ls (fun y hy => h y (List.mem_cons_of_mem _ hy))]
theorem au_body (ls : List (List Int)) (h : ∀ l ∈ ls, Cl l) : au (join ls) 0 = true := by
  have := au_join [] ls h
  simpa [au] using this
theorem au_ex : ∀ (b : List Int) (s : Nat), au b s = true →
    (s = 2 → ∃ ls, b = 10 :: join ls ∧ ∀ l ∈ ls, Cl l) ∧ (s = 0 → ∃ ls, b = join ls ∧ ∀ l ∈ ls, Cl l) ∧ (s ≠ 2 → s ≠ 0 → ∃ l ls, b = l ++ 13 :: 10 :: join ls ∧ Cl l ∧ ∀ l ∈ ls, Cl l)
  | [], s, h => by
    have hs : s = 0 := by simpa [au] using h
    subst hs
    exact ⟨fun h => by omega, fun _ => ⟨[], rfl, fun _ h => by cases h⟩, fun _ h => absurd rfl h⟩
  | x :: r, s, h => by
    simp only [au] at h
    by_cases h2 : s = 2
    · subst h2
      rw [if_pos rfl] at h
      by_cases hx : x = 10
      · rw [if_pos hx] at h
        obtain ⟨ls, rfl, hc⟩ := (au_ex r 0 h).2.1 rfl
        exact ⟨fun _ => ⟨ls, by rw [hx], hc⟩, fun h => by omega, fun h _ => absurd rfl h⟩
      · rw [if_neg hx] at h; cases h
    · rw [if_neg h2] at h
      have key : ∃ l ls, x :: r = l ++ 13 :: 10 :: join ls ∧ Cl l ∧ ∀ l ∈ ls, Cl l := by
        by_cases hx : x = 13
        · rw [if_pos hx] at h
          obtain ⟨ls, rfl, hc⟩ := (au_ex r 2 h).1 rfl
          exact ⟨[], ls, by rw [hx]; rfl, Cl.nil, hc⟩
        · rw [if_neg hx] at h
          by_cases hy : x = 10
          · rw [if_pos hy] at h; cases h
          · rw [if_neg hy] at h
            obtain ⟨l, ls, rfl, hl, hc⟩ := (au_ex r 1 h).2.2 (by decide) (by decide)
            refine ⟨x :: l, ls, rfl, fun y hy' => ?_, hc⟩
            rcases List.mem_cons.1 hy' with rfl | hy'
            · exact ⟨hx, hy⟩
            · exact hl y hy'
      refine ⟨fun h => absurd h h2, fun _ => ?_, fun _ _ => key⟩
      obtain ⟨l, ls, e, hl, hc⟩ := key
      refine ⟨l :: ls, by rw [e, join_cons], fun y hy => ?_⟩
      rcases List.mem_cons.1 hy with rfl | hy
      · exact hl
      · exact hc y hy
theorem au_iff (b : List Int) : au b 0 = true ↔ ∃ ls, b = join ls ∧ ∀ l ∈ ls, Cl l :=
  ⟨fun h => (au_ex b 0 h).2.1 rfl, fun ⟨ls, e, h⟩ => by rw [e]; exact au_body ls h⟩
theorem bytes_beq : ∀ (a b : List Int), By a → By b → (Lib.bytesOf a == Lib.bytesOf b) = (a == b)
  | [], [], _, _ => rfl
  | [], _ :: _, _, _ => rfl
  | _ :: _, [], _, _ => rfl
  | x :: a, y :: b, ha, hb => by
    have ih := bytes_beq a b (fun z hz => ha z (List.mem_cons_of_mem _ hz)) (fun z hz => hb z (List.mem_cons_of_mem _ hz))
    simp only [Lib.bytesOf, List.map_cons, List.cons_beq_cons] at ih ⊢
    rw [ih, byte_inj (ha x List.mem_cons_self) (hb y List.mem_cons_self)]
theorem equal_eq (a b : List Int) (ha : By a) (hb : By b) : bytes_Equal.f a b = some (a == b) := by
  unfold bytes_Equal.f
  rw [Lib.strOfNums_toList, Lib.strOfNums_toList, bytes_beq a b ha hb]
theorem suffix_eq (b : List Int) (hb : By b) (hl : b.length < 4294967281) : ∃ x, bytes_HasSuffix.f b [13, 10] = some x ∧ (x = true ↔ ∃ p, b = p ++ [13, 10]) := by
  unfold bytes_HasSuffix.f
  rw [show ((([13, 10] : List Int).length : Nat) : Int) = 2 by rfl]
  by_cases h : (b.length : Int) ≥ 2
  · rw [if_pos h, w64 _ (by omega) (by omega), if_pos (by omega), if_pos (by omega), show ((b.length : Int) - 2).toNat = b.length - 2 by omega,
      equal_eq _ _ (fun x hx => hb x (List.mem_of_mem_drop hx)) by_crlf, Option.bind_some]
    refine ⟨_, rfl, ?_⟩
    rw [beq_iff_eq]
    constructor
    · intro e
      exact ⟨b.take (b.length - 2), by rw [← e, List.take_append_drop]⟩
    · rintro ⟨p, rfl⟩
      simp
  · rw [if_neg h]
    refine ⟨_, rfl, by simp, ?_⟩
    rintro ⟨p, rfl⟩
    simp at h
    omega
theorem indexByte_neg (c : Int) (hc : 0 ≤ c ∧ c < 256) : ∀ l : List Int, By l → (Lib.indexByte (Lib.bytesOf l) c.toNat.toUInt8 ≥ 0 ↔ c ∈ l)
  | [], _ => by simp [Lib.indexByte, Lib.bytesOf]
  | x :: l, h => by
    have ih := indexByte_neg c hc l (fun z hz => h z (List.mem_cons_of_mem _ hz))
    have e := byte_inj (h x List.mem_cons_self) hc
    have hge := Lib.indexByte_ge (Lib.bytesOf l) c.toNat.toUInt8
    show Lib.indexByte (UInt8.ofNat x.toNat :: Lib.bytesOf l) (UInt8.ofNat c.toNat) ≥ 0 ↔ _
    unfold Lib.indexByte
    rw [e]
    by_cases hx : x = c
    · subst hx; simp
    · rw [beq_eq_false_iff_ne.2 hx, if_neg (by simp)]
      have hge' : -1 ≤ Lib.indexByte (Lib.bytesOf l) (UInt8.ofNat c.toNat) := hge
      have ih' : Lib.indexByte (Lib.bytesOf l) (UInt8.ofNat c.toNat) ≥ 0 ↔ c ∈ l := ih
      by_cases h2 : Lib.indexByte (Lib.bytesOf l) (UInt8.ofNat c.toNat) = -1
      · rw [h2] at ih' ⊢
        simp [Ne.symm hx]
        intro hm
        have := ih'.2 hm
        omega
      · rw [if_neg (by simpa using h2)]
        simp only [List.mem_cons, Ne.symm hx, false_or]
        rw [← ih']
        omega
theorem ib_eq (c : Int) (hc : 0 ≤ c ∧ c < 256) (l : List Int) (h : By l) : ∃ n, bytes_IndexByte.f l c = some n ∧ (n ≥ 0 ↔ c ∈ l) := ⟨_, rfl, indexByte_neg c hc l h⟩
theorem rd_L1_mid (a : List (List Int)) (l : List Int) (b : List (List Int)) : rd_L1 (a ++ l :: b) (a.length : Int) = l := by simp [rd_L1]
instance (l : List Int) : Decidable (Cl l) := by unfold Cl; infer_instance
theorem check_step (k : Nat) (x15 : List (List Int)) (x16 x17 : Int) : dots_Check.l0 (k + 1) x15 x16 x17 = if x17 < x16 then (if 0 ≤ x17 then (if x17 < (x15.length : Int) then ((bytes_IndexByte.f (rd_L1 x15 x17) 13).bind fun t144 => (if t144 ≥ 0 then (some 5) else ((bytes_IndexByte.f (rd_L1 x15 x17) 10).bind fun t145 => (if t145 ≥ 0 then (some 5) else (dots_Check.l0 k x15 x16 (wrap64 (x17 + 1))))))) else (none)) else (none)) else (some 0) := by
  rw [dots_Check.l0]
theorem check_l0 (k : Nat) : ∀ (b a : List (List Int)), (∀ l ∈ b, By l) → (a ++ b).length < 4294967281 → dots_Check.l0 (k + b.length + 1) (a ++ b) ((a ++ b).length : Int) (a.length : Int) = some (if ∀ l ∈ b, Cl l then 0 else 5)
  | [], a, _, _ => by
    rw [check_step, if_neg (by simp), if_pos (fun l h => by cases h)]
  | l :: b, a, hb, hl => by
    have hlen : (a ++ l :: b).length = a.length + 1 + b.length := by simp; omega
    rw [show k + (l :: b).length + 1 = (k + b.length + 1) + 1 by simp; omega, check_step, if_pos (by omega), if_pos (by omega), if_pos (by omega), rd_L1_mid]
    obtain ⟨n, hn, hn2⟩ := ib_eq 13 (by decide) l (hb l List.mem_cons_self)
    obtain ⟨m, hm, hm2⟩ := ib_eq 10 (by decide) l (hb l List.mem_cons_self)
    rw [hn, Option.bind_some, hm, Option.bind_some]
    by_cases h1 : n ≥ 0
    · rw [if_pos h1, if_neg]
      intro h
      exact (h l List.mem_cons_self 13 (hn2.1 h1)).1 rfl
    · rw [if_neg h1]
      by_cases h2 : m ≥ 0
      · rw [if_pos h2, if_neg]
        intro h
        exact (h l List.mem_cons_self 10 (hm2.1 h2)).2 rfl
      · rw [if_neg h2, w64 _ (by omega) (by omega)]
        have ih := check_l0 k b (a ++ [l]) (fun y hy => hb y (List.mem_cons_of_mem _ hy)) (by simp at hl ⊢; omega)
        rw [show a ++ [l] ++ b = a ++ l :: b by simp, show (((a ++ [l]).length : Nat) : Int) = (a.length : Int) + 1 by simp] at ih
        rw [ih]
        have hcl : Cl l := fun x hx => ⟨fun e => h1 (hn2.2 (e ▸ hx)), fun e => h2 (hm2.2 (e ▸ hx))⟩
        have : (∀ y ∈ l :: b, Cl y) ↔ ∀ y ∈ b, Cl y := ⟨fun h y hy => h y (List.mem_cons_of_mem _ hy), fun h y hy => by rcases List.mem_cons.1 hy with rfl | hy; exact hcl; exact h y hy⟩
        simp only [this]
theorem join_by {ls : List (List Int)} (h : By (join ls)) : ∀ l ∈ ls, By l := by
  intro l hl x hx
  apply h
  simp only [join, List.mem_flatten, List.mem_map]
  exact ⟨l ++ [13, 10], ⟨l, hl, rfl⟩, List.mem_append.2 (.inl hx)⟩
theorem join_len (ls : List (List Int)) : 2 * ls.length ≤ (join ls).length := by
  induction ls with
  | nil => simp
  | cons l ls ih => rw [join_cons]; simp; omega
theorem join_end : ∀ ls : List (List Int), ls ≠ [] → ∃ p, join ls = p ++ [13, 10] := by
  intro ls h
  obtain ⟨a, l, rfl⟩ : ∃ a l, ls = a ++ [l] := by
    rcases List.eq_nil_or_concat ls with rfl | ⟨a, l, rfl⟩
    · exact absurd rfl h
    · exact ⟨a, l, by simp⟩
  exact ⟨join a ++ l, by rw [join_app, join_one, List.append_assoc]⟩
theorem check_eq (k : Nat) (b : List Int) (hb : By b) (hl : b.length < 100000) (hk : b.length + 3 ≤ k) : dots_Check.f k b = some (if au b 0 then 0 else 5) := by
  obtain ⟨ls, t, rfl, hn, ht⟩ := split b.length b (Nat.le_refl _)
  have hlj := join_len ls
  have hlen : (join ls ++ t).length = (join ls).length + t.length := by simp
  have uniq : au (join ls ++ t) 0 = true → t = [] ∧ ∀ l ∈ ls, Cl l := by
    intro h
    obtain ⟨ls', e, hc⟩ := (au_iff _).1 h
    have h1 := lines_eq t ht (ls.length + ls'.length + 1) ls hn hb (by omega) (by omega)
    have h2 := lines_body (ls.length + ls'.length + 1) ls' hc (by rw [← e]; exact hb) (by rw [← e]; omega) (by omega)
    rw [e, h2] at h1
    obtain rfl := Option.some.inj h1
    refine ⟨?_, hc⟩
    have := congrArg List.length e
    simp at this
    exact this
  obtain ⟨m, rfl⟩ : ∃ m, k = m + ls.length + 2 := ⟨k - ls.length - 2, by omega⟩
  have j0 : ∀ (x : Bool), dots_Check.j0 (m + ls.length + 2) (join ls ++ t) x = if x = true then some 5 else some (if ∀ l ∈ ls, Cl l then 0 else 5) := by
    intro x
    rw [dots_Check.j0]
    by_cases hx : x = true
    · rw [if_pos hx, if_pos hx]
    · rw [if_neg hx, if_neg hx, lines_eq t ht _ ls hn hb (by omega) (by omega), Option.bind_some]
      have := check_l0 m ls [] (join_by hb.l) (by simp; omega)
      simpa using this
  unfold dots_Check.f
  simp only [dots_end.f, Option.bind_some]
  obtain ⟨x, hx, hxs⟩ := suffix_eq _ hb (by omega)
  rw [hx, Option.bind_some, j0, j0]
  by_cases h0 : ((join ls ++ t).length : Int) > 0
  · rw [if_pos h0]
    by_cases ha : au (join ls ++ t) 0 = true
    · obtain ⟨rfl, hc⟩ := uniq ha
      rw [List.append_nil] at *
      have hne : ls ≠ [] := by rintro rfl; simp [join] at h0
      obtain ⟨p, hp⟩ := join_end ls hne
      rw [hxs.2 ⟨p, hp⟩, ha]
      simp
      exact hc
    · rw [Bool.not_eq_true] at ha
      rw [ha]
      by_cases hs' : x = true
      · have hs := hxs.1 hs'
        rw [hs']
        have : ¬ ∀ l ∈ ls, Cl l := by
          intro hc
          obtain ⟨p, hp⟩ := hs
          rcases t with _ | ⟨y, t⟩
          · rw [List.append_nil, au_body ls hc] at ha; cases ha
          · rcases List.eq_nil_or_concat t with rfl | ⟨t', z, rfl⟩
            · have e2 : y = 10 := by
                have := congrArg List.getLast? hp
                simpa using this
              subst e2
              have e3 : join ls = p ++ [13] := by
                have := congrArg List.dropLast hp
                simpa using this
              rcases ls with _ | ⟨l, ls⟩
              · simp [join] at e3
              · obtain ⟨q, hq⟩ := join_end (l :: ls) (by simp)
                rw [hq] at e3
                have := congrArg List.getLast? e3
                simp at this
            · rcases List.eq_nil_or_concat t' with rfl | ⟨t2, z2, rfl⟩
              · have e3 := congrArg (fun l => l.reverse.take 2) hp
                simp at e3
                obtain ⟨rfl, rfl⟩ := e3
                simp [ix, List.isPrefixOf] at ht
              · have e3 := congrArg (fun l => l.reverse.take 2) hp
                simp at e3
                obtain ⟨rfl, rfl⟩ := e3
                have hh : ∀ (q : List Int), ix [13, 10] (q ++ [13, 10]) ≠ -1 := by
                  intro q
                  induction q with
                  | nil => simp [ix, List.isPrefixOf]
                  | cons w q ih =>
                    rw [List.cons_append]; unfold ix
                    split
                    · omega
                    · have := ix_ge [13, 10] (q ++ [13, 10]); first | omega | (rw [if_neg ih]; omega)
                apply hh (y :: t2)
                simpa using ht
        simp [this]
      · rw [Bool.not_eq_true] at hs'; rw [hs']; simp
  · rw [if_neg h0]
    have hz : join ls ++ t = [] := List.length_eq_zero_iff.1 (by omega)
    obtain ⟨h1, rfl⟩ := List.append_eq_nil_iff.1 hz
    have : ls = [] := by
      cases ls with
      | nil => rfl
      | cons l ls => rw [join_cons] at h1; simp at h1
    subst this
    simp [join, au]
end Go.Proofs.Ytmfobcheeekmfaa.FA
