/- Functions of the library that are told by what they are known to do. -/
import Derived.Test.YtnljpfjoboafoaaDoorEv23
import Derived.Lib.Split
namespace Go.Proofs.YtnljpfjoboafoaaDoor.Ev
set_option linter.all false
open Go Go.RowKit

/-- Where a byte stands first. -/
def idxB : List UInt8 → UInt8 → Int
  | [], _ => -1
  | b :: l, c => if b = c then 0 else match idxB l c with | -1 => -1 | n => n + 1
/-- A text cut at each byte c. -/
def splitBy (c : UInt8) : List UInt8 → List (List UInt8)
  | [] => [[]]
  | b :: l => if b = c then [] :: splitBy c l else match splitBy c l with | [] => [[b]] | x :: r => (b :: x) :: r
theorem idxB_eq : ∀ (l : List UInt8) (c : UInt8), Lib.indexByte l c = idxB l c
  | [], _ => rfl
  | b :: l, c => by
    unfold Lib.indexByte idxB
    by_cases h : b = c
    · rw [if_pos (by simpa using h), if_pos h]
    · rw [if_neg (by simpa using h), if_neg h, idxB_eq l c]
      by_cases h1 : idxB l c = -1
      · rw [h1]; rfl
      · rw [if_neg (by simpa using h1)]
        split
        · rename_i h2; exact absurd h2 h1
        · rfl
theorem idxB_cases : ∀ (l : List UInt8) (c : UInt8), (idxB l c = -1 ∧ c ∉ l) ∨ ∃ a b, l = a ++ c :: b ∧ c ∉ a ∧ idxB l c = a.length
  | [], c => .inl ⟨rfl, by simp⟩
  | x :: l, c => by
    by_cases h : x = c
    · subst h
      exact .inr ⟨[], l, rfl, by simp, by unfold idxB; rw [if_pos rfl]; rfl⟩
    · rcases idxB_cases l c with ⟨h1, h2⟩ | ⟨a, b, h1, h2, h3⟩
      · refine .inl ⟨?_, by simp [h2, Ne.symm h]⟩
        unfold idxB
        rw [if_neg h, h1]
        rfl
      · refine .inr ⟨x :: a, b, by rw [h1]; rfl, by simp [h2, Ne.symm h], ?_⟩
        unfold idxB
        rw [if_neg h, h3]
        split
        · rename_i h4; omega
        · simp
theorem splitBy_none {c : UInt8} : ∀ {l : List UInt8}, c ∉ l → splitBy c l = [l]
  | [], _ => rfl
  | x :: l, h => by
    simp only [List.mem_cons, not_or] at h
    unfold splitBy
    rw [if_neg (Ne.symm h.1), splitBy_none h.2]
theorem splitBy_app {c : UInt8} (b : List UInt8) : ∀ {a : List UInt8}, c ∉ a → splitBy c (a ++ c :: b) = a :: splitBy c b
  | [], _ => by show splitBy c (c :: b) = _; conv => lhs; unfold splitBy
                rw [if_pos rfl]
  | x :: a, h => by
    simp only [List.mem_cons, not_or] at h
    show splitBy c (x :: (a ++ c :: b)) = _
    conv => lhs; unfold splitBy
    rw [if_neg (Ne.symm h.1), splitBy_app b h.2]
theorem splitB_by (sep : ByteArray) (c : UInt8) (hs : sep.data.toList = [c]) : ∀ (n : Nat) (s : ByteArray), s.size ≤ n → (Lib.splitB sep 0 (Lib.countB s sep) s).map (·.data.toList) = splitBy c s.data.toList := by
  have h1 : sep.size = 1 := by rw [Lib.size_eq, hs]; rfl
  have hi : ∀ s : ByteArray, Lib.indexB s sep = idxB s.data.toList c := fun s => by
    show Lib.index s.data.toList sep.data.toList = _
    rw [hs, Lib.index_one, idxB_eq]
  intro n
  induction n with
  | zero =>
    intro s hn
    have e : s.data.toList = [] := List.eq_nil_of_length_eq_zero (by rw [← Lib.size_eq]; omega)
    have : Lib.indexB s sep = -1 := by rw [hi, e]; rfl
    rw [Lib.countB_miss s sep this, Lib.splitB_zero, e]
    simp [e, splitBy]
  | succ n ih =>
    intro s hn
    rcases idxB_cases s.data.toList c with ⟨h2, h3⟩ | ⟨a, b, h2, h3, h4⟩
    · rw [Lib.countB_miss s sep (by rw [hi, h2]), Lib.splitB_zero, splitBy_none h3]
      rfl
    · have h5 : Lib.indexB s sep = (a.length : Nat) := by rw [hi, h4]
      have h6 : (s.extract (a.length + sep.size) s.size).data.toList = b := by
        rw [Lib.extract_to_end, h2, h1, List.drop_append, List.drop_of_length_le (by omega)]
        simp
      have h7 : (s.extract (a.length + sep.size) s.size).size ≤ n := by
        rw [Lib.size_eq, h6]
        have : s.size = a.length + (b.length + 1) := by rw [Lib.size_eq, h2]; simp
        omega
      rw [Lib.countB_hit s sep a.length (by omega) h5, Nat.add_comm 1, Lib.splitB_hit sep 0 _ s a.length h5, List.map_cons, ih _ h7, h6, Lib.extract_from_zero, h2, splitBy_app b h3]
      simp
theorem splitB_len (sep : ByteArray) (c : UInt8) (hs : sep.data.toList = [c]) (s : ByteArray) : (splitBy c s.data.toList).length = Lib.countB s sep + 1 := by
  have h1 : sep.size = 1 := by rw [Lib.size_eq, hs]; rfl
  suffices ∀ (n : Nat) (s : ByteArray), s.size ≤ n → (splitBy c s.data.toList).length = Lib.countB s sep + 1 from this s.size s (Nat.le_refl _)
  have hi : ∀ s : ByteArray, Lib.indexB s sep = idxB s.data.toList c := fun s => by
    show Lib.index s.data.toList sep.data.toList = _
    rw [hs, Lib.index_one, idxB_eq]
  intro n
  induction n with
  | zero =>
    intro s hn
    have e : s.data.toList = [] := List.eq_nil_of_length_eq_zero (by rw [← Lib.size_eq]; omega)
    have : Lib.indexB s sep = -1 := by rw [hi, e]; rfl
    rw [Lib.countB_miss s sep this, e]
    rfl
  | succ n ih =>
    intro s hn
    rcases idxB_cases s.data.toList c with ⟨h2, h3⟩ | ⟨a, b, h2, h3, h4⟩
    · rw [Lib.countB_miss s sep (by rw [hi, h2]), splitBy_none h3]
      rfl
    · have h5 : Lib.indexB s sep = (a.length : Nat) := by rw [hi, h4]
      have h6 : (s.extract (a.length + sep.size) s.size).data.toList = b := by
        rw [Lib.extract_to_end, h2, h1, List.drop_append, List.drop_of_length_le (by omega)]
        simp
      have h7 : (s.extract (a.length + sep.size) s.size).size ≤ n := by
        rw [Lib.size_eq, h6]
        have : s.size = a.length + (b.length + 1) := by rw [Lib.size_eq, h2]; simp
        omega
      have := ih _ h7
      rw [h6] at this
      rw [Lib.countB_hit s sep a.length (by omega) h5, h2, splitBy_app b h3, List.length_cons, this]
      omega

def ovIB : List PV → Hp → Option (PV × Hp)
  | [.str s, .int .u8 c], H => some (.int .i64 (idxB s c.toNat.toUInt8), H)
  | _, _ => none
def ovI1 : List PV → Hp → Option (PV × Hp)
  | [.str s, .str [c]], H => some (.int .i64 (idxB s c), H)
  | _, _ => none
def ovSplit : List PV → Hp → Option (PV × Hp)
  | [.str s, .str [c]], H => if s.length < 4294967281 then some (.sl .no 1 (splitBy c s).length ((splitBy c s).map PV.str), H) else none
  | _, _ => none

section
variable {P : Program} {f : FuncId}
theorem str_of {g : Gh} {H : Hp} {l : List UInt8} {v : Value} (h : RV g H (.str l) v) : v = .string ⟨l.toArray⟩ := by simpa only [RV] using h
theorem two_of {g : Gh} {H : Hp} {p q : PV} {vs : List Value} (h : RVs g H [p, q] vs) : ∃ v u, vs = [v, u] ∧ RV g H p v ∧ RV g H q u := by
  simp only [RVs] at h
  obtain ⟨v, r, rfl, h1, u, r', rfl, h2, rfl⟩ := h
  exact ⟨v, u, rfl, h1, h2⟩
theorem ok_IB (he : Enters P f) (hc : ∀ (s : ByteArray) (c : Int) (w : World), Calls P f #[.string s, .int .u8 c] w fun e w' => e = .returned (.int .i64 (Lib.indexByte s.data.toList c.toNat.toUInt8)) ∧ w' = w) :
    CallOk P fun f' args H => if f' = f then ovIB args H else none := fun f' args H r H' h => by
  dsimp only at h
  split at h
  · rename_i hf
    subst hf
    unfold ovIB at h
    split at h
    · rename_i s c
      cases h
      refine ⟨he, fun g w vs hI hr => ?_⟩
      obtain ⟨v, u, rfl, h1, h2⟩ := two_of hr
      obtain rfl := str_of h1
      simp only [RV] at h2
      subst h2
      refine (hc ⟨s.toArray⟩ c w).mono fun e w' ⟨he, hw⟩ => ?_
      subst he; subst hw
      exact ⟨_, g, rfl, hI, by simp only [RV]; rw [idxB_eq], Ext.refl _ _ _⟩
    · cases h
  · cases h
theorem ok_I1 (he : Enters P f) (hc : ∀ (s : ByteArray) (c : UInt8) (w : World), Calls P f #[.string s, .string ⟨#[c]⟩] w fun e w' => e = .returned (.int .i64 (Lib.indexByte s.data.toList c)) ∧ w' = w) :
    CallOk P fun f' args H => if f' = f then ovI1 args H else none := fun f' args H r H' h => by
  dsimp only at h
  split at h
  · rename_i hf
    subst hf
    unfold ovI1 at h
    split at h
    · rename_i s c
      cases h
      refine ⟨he, fun g w vs hI hr => ?_⟩
      obtain ⟨v, u, rfl, h1, h2⟩ := two_of hr
      obtain rfl := str_of h1
      obtain rfl := str_of h2
      refine (hc ⟨s.toArray⟩ c w).mono fun e w' ⟨he, hw⟩ => ?_
      subst he; subst hw
      exact ⟨_, g, rfl, hI, by simp only [RV]; rw [idxB_eq], Ext.refl _ _ _⟩
    · cases h
  · cases h
theorem ok_Split {z el : Nat} (hz : glob = some z) (he : Enters P f) (hc : ∀ (s sep : ByteArray) (m : Int) (w : World), s.size < 4294967281 → w.cell? ⟨z, 0, none⟩ = some (.int .i64 m) → 1 ≤ sep.size →
      Calls P f #[.string s, .string sep] w fun e w' => e = .returned (.slice (some ⟨w.heap.size, 0, none⟩) (Lib.countB s sep + 1) (Lib.countB s sep + 1)) ∧ w' = w.alloc (.cells ((Lib.splitB sep 0 (Lib.countB s sep) s).map Value.string).toArray el)) :
    CallOk P fun f' args H => if f' = f then ovSplit args H else none := fun f' args H r H' h => by
  dsimp only at h
  split at h
  · rename_i hf
    subst hf
    unfold ovSplit at h
    split at h
    · rename_i s c
      split at h
      · rename_i hs
        cases h
        refine ⟨he, fun g w vs hI hr => ?_⟩
        obtain ⟨v, u, rfl, h1, h2⟩ := two_of hr
        obtain rfl := str_of h1
        obtain rfl := str_of h2
        obtain ⟨m, hm⟩ := hI.z z hz
        refine (hc ⟨s.toArray⟩ ⟨#[c]⟩ m w hs (hI.σw _ _ _ hm) (Nat.le_refl _)).mono fun e w' ⟨he, hw⟩ => ?_
        subst he; subst hw
        have hsp := splitB_by ⟨#[c]⟩ c rfl _ ⟨s.toArray⟩ (Nat.le_refl _)
        have hln := splitB_len ⟨#[c]⟩ c rfl ⟨s.toArray⟩
        obtain ⟨g', h3, h4, h5⟩ := grow_none (w' := w.alloc (.cells ((Lib.splitB ⟨#[c]⟩ 0 (Lib.countB ⟨s.toArray⟩ ⟨#[c]⟩) ⟨s.toArray⟩).map Value.string).toArray el)) hI rfl rfl rfl rfl
          ((Lib.splitB ⟨#[c]⟩ 0 (Lib.countB ⟨s.toArray⟩ ⟨#[c]⟩) ⟨s.toArray⟩).map Value.string) (fun i v hv => by simpa using hv) (fun v hv => by
            obtain ⟨b, _, rfl⟩ := List.mem_map.1 hv
            rfl)
        refine ⟨_, g', rfl, h3, ?_, h4⟩
        simp only [RV, RC]
        have hl' : (splitBy c s).length = Lib.countB ⟨s.toArray⟩ ⟨#[c]⟩ + 1 := by simpa using hln
        refine ⟨(fun _ h => nomatch h), some ⟨w.heap.size, 0, none⟩, Lib.countB ⟨s.toArray⟩ ⟨#[c]⟩ + 1, by rw [hl'], by rw [hl']; exact Nat.le_refl _, (fun h => nomatch h), by simp, fun _ => ⟨w.heap.size, 0, _, rfl, h5, ?_⟩⟩
        have e : splitBy c s = (Lib.splitB ⟨#[c]⟩ 0 (Lib.countB ⟨s.toArray⟩ ⟨#[c]⟩) ⟨s.toArray⟩).map (·.data.toList) := by rw [hsp]
        rw [e]
        generalize Lib.splitB ⟨#[c]⟩ 0 (Lib.countB ⟨s.toArray⟩ ⟨#[c]⟩) ⟨s.toArray⟩ = L
        induction L with
        | nil => simp only [List.map_nil, RCs]
        | cons b L ih => simp only [List.map_cons, RCs]; exact ⟨_, _, rfl, by simp only [RC], ih⟩
      · cases h
    · cases h
  · cases h
end
end Go.Proofs.YtnljpfjoboafoaaDoor.Ev
