/- A stamp ahead of a text: what a header tells then. -/
import Derived.Test.YtmdnloajpjfbmaaDoorSc
namespace Go.Proofs.YtmdnloajpjfbmaaDoor.Tab
set_option linter.all false
open Go Go.RowKit Go.Proofs.YtmdnloajpjfbmaaDoor.Ev
theorem w00 : IntKind.i64.wrap 0 = 0 := rfl
theorem scans (b : List UInt8) (hb : b.length ≤ 1000000000) (h : body b = true) : ∃ (z n : Nat) (L : List PV) (t : Tk) (H : Hp), (t = .tok 0 ∧ H = [.tok] ∨ t = .no ∧ H = []) ∧
    T 12 [sl8 b] [] = some (.tup [.sl t z n L, .int .i64 (scanGo [] 0 (lines b)).2, .int .i64 0], H) ∧ FS (.sl .no z n L) (scanGo [] 0 (lines b)).1 ∧ T 22 [sl8 b] [] = some (.tup [.sl t z n L, .int .i64 (scanGo [] 0 (lines b)).2], H) := by
  have c1 := T12_yes b hb h
  have c2 := T22 b hb
  generalize (scanGo [] 0 (lines b)).1 = o at *
  generalize (scanGo [] 0 (lines b)).2 = e at *
  by_cases ho : o = []
  · subst ho
    exact ⟨0, 0, [], .tok 0, [.tok], .inl ⟨rfl, rfl⟩, c1, FS.none 0, c2⟩
  · unfold outR at c1 c2
    rw [if_neg ho, if_neg ho] at c1 c2
    exact ⟨2, _, _, .no, [], .inr ⟨rfl, rfl⟩, c1, FS.sl o, c2⟩
theorem dig_cl : ∀ (k u : Nat), u ≤ k → Cl (Lib.decDigits u)
  | 0, u, h => by
    obtain rfl : u = 0 := by omega
    rw [Lib.decDigits_one (by decide)]
    intro c hc
    rw [List.mem_singleton.1 hc]; decide
  | k + 1, u, h => by
    have dg : ∀ d : Fin 10, UInt8.ofNat (48 + d.val) ≠ 13 ∧ UInt8.ofNat (48 + d.val) ≠ 10 := by decide
    by_cases h1 : u < 10
    · rw [Lib.decDigits_one h1]
      intro c hc
      rw [List.mem_singleton.1 hc]; exact dg ⟨u, h1⟩
    · rw [dec_big h1]
      refine (dig_cl k (u / 10) (by omega)).app fun c hc => ?_
      rw [List.mem_singleton.1 hc]; exact dg ⟨u % 10, by omega⟩
theorem dom_cl {d : List UInt8} (h : parts d 255 label = true) : Cl d := fun c hc => by
  rcases domain_chars h c hc with h | rfl
  · refine ⟨fun e => ?_, fun e => ?_⟩ <;> subst e <;> exact absurd h (by decide)
  · decide
theorem lit_cl {l : List UInt8} (h : l.all (fun c => c != 13 && c != 10) = true) : Cl l := fun c hc => by
  have := List.all_eq_true.1 h c hc
  simpa using this
theorem stamp_cl {h s : List UInt8} (hd : domB h s = true) (u : Nat) : Cl (stampL h s u) := by
  unfold domB at hd
  simp only [Bool.and_eq_true] at hd
  unfold stampL
  rw [itoa_nat]
  exact (((((lit_cl (by decide)).app (dom_cl hd.1)).app (lit_cl (by decide))).app (dom_cl hd.2)).app (lit_cl (by decide))).app (dig_cl u u (Nat.le_refl _))
def recd : List UInt8 := [82, 101, 99, 101, 105, 118, 101, 100]
theorem recd_def : recd = [82, 101, 99, 101, 105, 118, 101, 100] := rfl
theorem recd_hop (x : List UInt8) : hopB (recd, x) = true := rfl
theorem stamp_name (h s : List UInt8) (u : Nat) : ∃ x, nameF (stampL h s u) = (recd, x, true) := by
  have : ∃ y, stampL h s u = 82 :: 101 :: 99 :: 101 :: 105 :: 118 :: 101 :: 100 :: 58 :: y := ⟨_, rfl⟩
  obtain ⟨y, hy⟩ := this
  rw [hy]
  exact ⟨y, rfl⟩
theorem scan_pre (f : Fld) (e0 : Nat) : ∀ (L : List (List UInt8)) (out : List Fld) (e : Nat), (out = [] → ∀ l r, L = l :: r → moreB l = false) → scanGo (f :: out) (e0 + e) L = (f :: (scanGo out e L).1, e0 + (scanGo out e L).2)
  | [], out, e, _ => rfl
  | l :: r, out, e, hb => by
    cases hn : (nameF l).2.2 with
    | true =>
      rw [scan_is hn, scan_is hn, Nat.add_assoc]
      exact scan_pre f e0 r (out ++ [((nameF l).1, (nameF l).2.1)]) (e + (l.length + 2)) (fun h0 => by simp at h0)
    | false =>
      cases hm : moreB l with
      | false =>
        rw [scan_end hn (by rw [hm]; rfl), scan_end hn (by rw [hm]; rfl)]
        split <;> simp [Nat.add_assoc]
      | true =>
        rcases List.eq_nil_or_concat out with ho | ⟨p, g, ho⟩
        · exact absurd (hb ho l r rfl) (by rw [hm]; decide)
        rw [List.concat_eq_append] at ho
        subst ho
        rw [show f :: (p ++ [g]) = (f :: p) ++ [g] from rfl, scan_more hn hm, scan_more hn hm, Nat.add_assoc]
        exact scan_pre f e0 r (p ++ [(g.1, g.2 ++ l)]) (e + (l.length + 2)) (fun h0 => by simp at h0)
theorem scan_first : ∀ (L : List (List UInt8)) (f : Fld) (out : List Fld) (e : Nat), ∃ x r, (scanGo (f :: out) e L).1 = x :: r ∧ x.1 = f.1
  | [], f, out, e => ⟨f, out, rfl, rfl⟩
  | l :: r, f, out, e => by
    cases hn : (nameF l).2.2 with
    | true =>
      rw [scan_is hn]
      exact scan_first r f (out ++ [((nameF l).1, (nameF l).2.1)]) _
    | false =>
      cases hm : moreB l with
      | false =>
        rw [scan_end hn (by rw [hm]; rfl)]
        split <;> exact ⟨f, out, rfl, rfl⟩
      | true =>
        rcases List.eq_nil_or_concat out with ho | ⟨p, g, ho⟩
        · subst ho
          rw [show [f] = [] ++ [f] from rfl, scan_more hn hm]
          obtain ⟨x, r', h1, h2⟩ := scan_first r (f.1, f.2 ++ l) [] (e + (l.length + 2))
          exact ⟨x, r', h1, h2⟩
        · rw [List.concat_eq_append] at ho
          subst ho
          rw [show f :: (p ++ [g]) = (f :: p) ++ [g] from rfl, scan_more hn hm]
          exact scan_first r f (p ++ [(g.1, g.2 ++ l)]) _
/-- A text, a stamp ahead of it. -/
theorem front {b h s : List UInt8} (hb : body b = true) (hd : domB h s = true) (u : Nat) : body (stampB h s u ++ b) = true ∧ ∃ x r e, scanGo [] 0 (lines (stampB h s u ++ b)) = ((recd, x) :: r, e) ∧
    ((∀ l t, lines b = l :: t → moreB l = false) → r = (scanGo [] 0 (lines b)).1 ∧ e = (stampB h s u).length + (scanGo [] 0 (lines b)).2) := by
  obtain ⟨h1, h2⟩ := body_lines hb
  have hc := stamp_cl hd u
  obtain ⟨x, hx⟩ := stamp_name h s u
  have e1 : stampB h s u ++ b = join (stampL h s u :: lines b) := by
    rw [join_cons, ← h1]; unfold stampB; simp
  have hcl : ∀ l ∈ stampL h s u :: lines b, Cl l := fun l hl => by
    rcases List.mem_cons.1 hl with rfl | hl
    · exact hc
    · exact h2 l hl
  have hlen : (stampL h s u).length + 2 = (stampB h s u).length := by unfold stampB; simp
  rw [e1]
  refine ⟨body_join hcl, ?_⟩
  rw [lines_join hcl, scan_is (by rw [hx]), hx]
  obtain ⟨y, r, h3, h4⟩ := scan_first (lines b) (recd, x) [] (0 + ((stampL h s u).length + 2))
  refine ⟨y.2, r, _, Prod.ext (by dsimp only [List.nil_append]; rw [h3]; exact congrArg (· :: r) (Prod.ext h4 rfl)) rfl, fun hm => ?_⟩
  have := scan_pre (recd, x) ((stampL h s u).length + 2) (lines b) [] 0 (fun _ l r h => hm l r h)
  dsimp only [List.nil_append] at h3 ⊢
  rw [Nat.zero_add] at h3 ⊢
  rw [Nat.add_zero] at this
  rw [this] at h3 ⊢
  exact ⟨(List.cons.inj h3).2.symm, by rw [hlen]⟩
theorem lines_head {b : List UInt8} {c : UInt8} {t : List UInt8} (hb : body b = true) (h : b = c :: t) (h1 : (c == 32) = false) (h2 : (c == 9) = false) : ∀ l r, lines b = l :: r → moreB l = false := fun l r hl => by
  have hj := (body_lines hb).1
  rw [hl, join_cons] at hj
  cases l with
  | nil => rfl
  | cons d l' =>
    rw [h] at hj
    obtain rfl := (List.cons.inj hj).1
    rw [moreB_cons, h1, h2]; rfl
end Go.Proofs.YtmdnloajpjfbmaaDoor.Tab
