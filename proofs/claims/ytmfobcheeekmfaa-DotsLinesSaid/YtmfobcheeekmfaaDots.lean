/- What the printed functions of package dots come to, as plain facts on lists of bytes. -/
import Derived.Test.YtmfobcheeekmfaaFAx4
import Derived.Test.YtmfobcheeekmfaaFAx9
import Derived.Test.YtmfobcheeekmfaaFAx5
import Derived.Test.YtmfobcheeekmfaaFAx8
import Derived.Lib.IndexMore
import Derived.Lib.IndexLaws
namespace Go.Proofs.Ytmfobcheeekmfaa.FA
set_option linter.unusedSimpArgs false
set_option linter.unnecessarySimpa false
set_option linter.unusedVariables false
open Go.RowKit Go.Proofs.YtmfobcheeekmfaaW.PrintWords Go.Proofs.YtmfobcheeekmfaaW.PrintLast Go.Proofs.YtmfobcheeekmfaaW.PrintMore

def By (l : List Int) : Prop := ∀ x ∈ l, 0 ≤ x ∧ x < 256
theorem By.app {a b : List Int} (h : By a) (k : By b) : By (a ++ b) := fun x hx => (List.mem_append.1 hx).elim (h x) (k x)
theorem By.l {a b : List Int} (h : By (a ++ b)) : By a := fun x hx => h x (List.mem_append.2 (.inl hx))
theorem By.r {a b : List Int} (h : By (a ++ b)) : By b := fun x hx => h x (List.mem_append.2 (.inr hx))
theorem By.of_wf {l : List Int} (h : ∀ x ∈ l, (Lit.int .u8 x).wf = true) : By l := by
  intro x hx
  have := h x hx
  simp only [Lit.wf, IntKind.min, IntKind.max, IntKind.signed, IntKind.bits, Bool.and_eq_true, decide_eq_true_eq] at this
  simp at this
  omega
theorem w64 (n : Int) (h0 : -9223372036854775808 ≤ n) (h1 : n < 9223372036854775808) : wrap64 n = n := by unfold wrap64; omega

/-- The first place of a pattern, or -1. -/
def ix (p : List Int) : List Int → Int
  | [] => if p.isEmpty then 0 else -1
  | x :: r => if p.isPrefixOf (x :: r) then 0 else if ix p r = -1 then -1 else ix p r + 1
theorem byte_inj {x y : Int} (hx : 0 ≤ x ∧ x < 256) (hy : 0 ≤ y ∧ y < 256) : (UInt8.ofNat x.toNat == UInt8.ofNat y.toNat) = (x == y) := by
  by_cases h : x = y
  · subst h; simp
  · have : UInt8.ofNat x.toNat ≠ UInt8.ofNat y.toNat := by
      intro e
      have := congrArg UInt8.toNat e
      simp at this
      omega
    rw [beq_eq_false_iff_ne.2 h, beq_eq_false_iff_ne.2 this]
theorem pre_map : ∀ (p b : List Int), By p → By b → (Lib.bytesOf p).isPrefixOf (Lib.bytesOf b) = p.isPrefixOf b
  | [], _, _, _ => by simp [Lib.bytesOf]
  | _ :: _, [], _, _ => by simp [Lib.bytesOf]
  | x :: p, y :: b, hp, hb => by
    have ih := pre_map p b (fun z hz => hp z (List.mem_cons_of_mem _ hz)) (fun z hz => hb z (List.mem_cons_of_mem _ hz))
    simp only [Lib.bytesOf, List.map_cons, List.isPrefixOf] at ih ⊢
    rw [ih, byte_inj (hp x List.mem_cons_self) (hb y List.mem_cons_self)]
theorem ix_eq (p : List Int) (hp : By p) : ∀ b, By b → Lib.index (Lib.bytesOf b) (Lib.bytesOf p) = ix p b
  | [], _ => by cases p <;> rfl
  | x :: r, hb => by
    have ih := ix_eq p hp r (fun z hz => hb z (List.mem_cons_of_mem _ hz))
    have hpre := pre_map p (x :: r) hp hb
    show Lib.index (UInt8.ofNat x.toNat :: Lib.bytesOf r) (Lib.bytesOf p) = _
    unfold Lib.index ix
    rw [ih, ← hpre]
    simp only [Lib.bytesOf, List.map_cons, beq_iff_eq]
theorem ix_ge (p : List Int) : ∀ b, -1 ≤ ix p b
  | [] => by unfold ix; split <;> omega
  | x :: r => by unfold ix; have := ix_ge p r; split; · omega
                 split <;> omega
/-- A line's end is found at once behind what has no 13. -/
def NC (l : List Int) : Prop := ∀ r, ix [13, 10] (l ++ 13 :: 10 :: r) = l.length
def Cl (l : List Int) : Prop := ∀ x ∈ l, x ≠ 13 ∧ x ≠ 10
theorem Cl.nil : Cl [] := fun _ h => by cases h
theorem Cl.tail {x : Int} {l : List Int} (h : Cl (x :: l)) : Cl l := fun y hy => h y (List.mem_cons_of_mem _ hy)
theorem Cl.head {x : Int} {l : List Int} (h : Cl (x :: l)) : x ≠ 13 ∧ x ≠ 10 := h x List.mem_cons_self
theorem Cl.nc : ∀ {l : List Int}, Cl l → NC l
  | [], _ => fun r => by simp [ix, List.isPrefixOf]
  | x :: l, h => fun r => by
    have h1 := h.head.1
    rw [List.cons_append]
    unfold ix
    rw [Cl.nc h.tail r, if_neg (by simp [List.isPrefixOf]; exact fun e => absurd e.symm h1), if_neg (by omega)]
    simp
theorem ix_split : ∀ (b : List Int), 0 ≤ ix [13, 10] b → ∃ l r, b = l ++ 13 :: 10 :: r ∧ NC l
  | [], h => by simp [ix] at h
  | x :: r0, h => by
    by_cases hp : [13, 10].isPrefixOf (x :: r0) = true
    · rcases r0 with _ | ⟨y, r⟩
      · simp [List.isPrefixOf] at hp
      · simp only [List.isPrefixOf, Bool.and_eq_true, beq_iff_eq] at hp
        obtain ⟨rfl, rfl, _⟩ := hp
        exact ⟨[], r, rfl, Cl.nil.nc⟩
    · have h' := h
      unfold ix at h'
      rw [if_neg hp] at h'
      by_cases h2 : ix [13, 10] r0 = -1
      · rw [if_pos h2] at h'; omega
      · obtain ⟨l, r, e, hn⟩ := ix_split r0 (by have := ix_ge [13, 10] r0; omega)
        subst e
        refine ⟨x :: l, r, rfl, fun r' => ?_⟩
        rw [List.cons_append]
        unfold ix
        rw [hn r', if_neg, if_neg (by omega)]
        · simp
        · intro hq
          apply hp
          cases l <;> simp [List.isPrefixOf] at hq ⊢ <;> exact hq
def join (ls : List (List Int)) : List Int := (ls.map (· ++ [13, 10])).flatten
theorem join_nil : join [] = [] := rfl
theorem join_cons (l : List Int) (ls : List (List Int)) : join (l :: ls) = l ++ 13 :: 10 :: join ls := by simp [join]
theorem join_app (a b : List (List Int)) : join (a ++ b) = join a ++ join b := by simp [join]
theorem join_one (l : List Int) : join [l] = l ++ [13, 10] := by simp [join]
theorem split : ∀ (n : Nat) (b : List Int), b.length ≤ n → ∃ ls t, b = join ls ++ t ∧ (∀ l ∈ ls, NC l) ∧ ix [13, 10] t = -1
  | 0, b, h => ⟨[], b, rfl, fun _ h => by (cases h), by rw [List.length_eq_zero_iff.1 (Nat.le_zero.1 h)]; rfl⟩
  | n + 1, b, h => by
    by_cases hi : ix [13, 10] b = -1
    · exact ⟨[], b, rfl, fun _ h => by (cases h), hi⟩
    · obtain ⟨l, r, rfl, hn⟩ := ix_split b (by have := ix_ge [13, 10] b; omega)
      obtain ⟨ls, t, rfl, h1, h2⟩ := split n r (by simp at h; omega)
      refine ⟨l :: ls, t, by simp [join_cons], fun y hy => ?_, h2⟩
      rcases List.mem_cons.1 hy with rfl | hy
      · exact hn
      · exact h1 y hy
theorem index_eq (b p : List Int) (hb : By b) (hp : By p) (hl : b.length < 4294967281) (h2 : 2 ≤ p.length) (h3 : p.length ≤ 1000000) : bytes_Index.f b p = some (ix p b) := by
  unfold bytes_Index.f
  rw [if_pos ⟨hl, h2, h3, hb, hp⟩, ix_eq p hp b hb]
theorem by_crlf : By [13, 10] := fun x hx => by simp at hx; omega
theorem cut_some (l r : List Int) (hn : NC l) (hb : By (l ++ 13 :: 10 :: r)) (hl : (l ++ 13 :: 10 :: r).length < 4294967281) : bytes_Cut.f (l ++ 13 :: 10 :: r) [13, 10] = some (l, r, true) := by
  unfold bytes_Cut.f
  have hlen : (l ++ 13 :: 10 :: r).length = l.length + 2 + r.length := by simp; omega
  rw [index_eq _ _ hb by_crlf hl (by decide) (by decide), Option.bind_some, hn r, if_pos (by omega), if_pos (by omega), if_pos (by omega)]
  have e : wrap64 ((l.length : Int) + ((([13, 10] : List Int).length : Nat) : Int)) = ((l.length + 2 : Nat) : Int) := by
    rw [show ((([13, 10] : List Int).length : Nat) : Int) = 2 by rfl, w64 _ (by omega) (by omega)]
    omega
  rw [e, if_pos (by omega), if_pos (by omega), Int.toNat_natCast, Int.toNat_natCast]
  congr 2
  · simp
  · congr 1
    rw [show l ++ 13 :: 10 :: r = (l ++ [13, 10]) ++ r by simp]
    rw [List.drop_left' (by simp)]
theorem cut_none (t : List Int) (h : ix [13, 10] t = -1) (hb : By t) (hl : t.length < 4294967281) : bytes_Cut.f t [13, 10] = some (t, [], false) := by
  unfold bytes_Cut.f
  rw [index_eq _ _ hb by_crlf hl (by decide) (by decide), Option.bind_some, h, if_neg (by omega)]
theorem lines_step (k : Nat) (x : List Int) (acc : List (List Int)) : dots_Lines.l0 (k + 1) x acc = ((bytes_Cut.f x [13, 10]).bind fun b => (if b.2.2 = true then ((bytes_Clone.f b.1).bind fun t128 => (if acc.length < 5864062014805 then (dots_Lines.l0 k b.2.1 (acc ++ [t128])) else (none))) else (some acc))) := rfl
theorem lines_l0 (t : List Int) (ht : ix [13, 10] t = -1) (k : Nat) : ∀ (ls acc : List (List Int)), (∀ l ∈ ls, NC l) → By (join ls ++ t) → (join ls ++ t).length < 4294967281 → acc.length + ls.length < 5864062014805 →
    dots_Lines.l0 (k + ls.length + 1) (join ls ++ t) acc = some (acc ++ ls)
  | [], acc, _, hb, hl, _ => by
    simp only [dots_Lines.l0, dots_end.f, Option.bind_some, join_nil, List.nil_append] at *
    rw [cut_none t ht hb hl]
    simp
  | l :: ls, acc, hn, hb, hl, hacc => by
    have e : join (l :: ls) ++ t = l ++ 13 :: 10 :: (join ls ++ t) := by simp [join_cons]
    rw [e] at hb hl ⊢
    simp only [List.length_cons] at *
    rw [show k + (ls.length + 1) + 1 = (k + ls.length + 1) + 1 by omega]
    rw [lines_step]
    rw [cut_some l _ (hn l List.mem_cons_self) hb hl, Option.bind_some]
    simp only [if_true]
    have hlen : (l ++ 13 :: 10 :: (join ls ++ t)).length = l.length + 2 + (join ls ++ t).length := by simp; omega
    unfold bytes_Clone.f
    rw [if_pos (by omega), Option.bind_some, if_pos (by omega)]
    rw [lines_l0 t ht k ls (acc ++ [l]) (fun y hy => hn y (List.mem_cons_of_mem _ hy)) (fun x hx => hb.r x (List.mem_cons_of_mem _ (List.mem_cons_of_mem _ hx))) (by omega) (by simp; omega)]
    simp
theorem lines_eq (t : List Int) (ht : ix [13, 10] t = -1) (k : Nat) (ls : List (List Int)) (hn : ∀ l ∈ ls, NC l) (hb : By (join ls ++ t)) (hl : (join ls ++ t).length < 4294967281) (hk : ls.length < k) :
    dots_Lines.f k (join ls ++ t) = some ls := by
  obtain ⟨m, rfl⟩ : ∃ m, k = m + ls.length + 1 := ⟨k - ls.length - 1, by omega⟩
  have hj : ls.length ≤ (join ls).length := by
    clear hb hl hn
    induction ls with
    | nil => simp
    | cons l ls ih => rw [join_cons]; simp; omega
  unfold dots_Lines.f
  rw [lines_l0 t ht m ls [] hn hb hl (by simp at hl ⊢; omega)]
  simp
theorem ix_nil : ix [13, 10] [] = -1 := rfl
theorem lines_body (k : Nat) (ls : List (List Int)) (hn : ∀ l ∈ ls, Cl l) (hb : By (join ls)) (hl : (join ls).length < 4294967281) (hk : ls.length < k) : dots_Lines.f k (join ls) = some ls := by
  have := lines_eq [] ix_nil k ls (fun l h => (hn l h).nc) (by simpa using hb) (by simpa using hl) hk
  simpa using this
end Go.Proofs.Ytmfobcheeekmfaa.FA
