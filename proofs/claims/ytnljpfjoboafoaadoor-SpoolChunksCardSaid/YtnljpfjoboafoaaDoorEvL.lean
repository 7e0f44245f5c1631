/- More functions of the library that are told by what they are known to do: bytes.Index, bytes.IndexByte, strings.Join. -/
import Derived.Test.YtnljpfjoboafoaaDoorEv24
import Derived.Lib.Bytes
import Derived.Deep.Draws
import Derived.Laws.AppendOwn
import Derived.Lib.ItoaNum
import Derived.Lib.Index
import Derived.Lib.Join
namespace Go.Proofs.YtnljpfjoboafoaaDoor.Ev
set_option linter.all false
open Go Go.RowKit

section
variable {P : Program} {f : FuncId} {g : Gh} {H : Hp} {w w' : World}
theorem cell_below (h : Below w.heap.size w w') {b o : Nat} {v : Value} (hc : w.cell? ⟨b, o, none⟩ = some v) : w'.cell? ⟨b, o, none⟩ = some v := by
  have hb : b < w.heap.size := by
    rcases Nat.lt_or_ge b w.heap.size with hl | hl
    · exact hl
    · exfalso
      have : w.heap[b]? = none := Array.getElem?_eq_none hl
      simp [World.cell?, this] at hc
  rw [World.cell?, h.block b hb]
  exact hc
theorem ext_below (h : Below w.heap.size w w') : Ext g H w g H w' :=
  ⟨fun _ _ _ h => h, fun _ _ => rfl, Nat.le_refl _, fun _ _ h => ⟨h, rfl⟩, h.os, h.tape, h.output, h.size, fun k hk _ => h.block k hk, fun _ _ _ _ => rfl, fun _ h => .inl h⟩
theorem inv_below (hI : Inv g H w) (h : Below w.heap.size w w') : Inv g H w' :=
  ⟨fun b o v hv => cell_below h (hI.σw b o v hv), hI.one, hI.z, fun id b e top ha hm => by
      obtain ⟨carr, el, fr, h1, h2⟩ := hI.blk id b e top ha hm
      have hb : b < w.heap.size := by
        rcases Nat.lt_or_ge b w.heap.size with hl | hl
        · exact hl
        · rw [Array.getElem?_eq_none hl] at h1; cases h1
      exact ⟨carr, el, fr, by rw [h.block b hb]; exact h1, h2⟩, fun id cs b e top hc hm => by
      obtain ⟨h1, vs, h2, h3⟩ := hI.obj id cs b e top hc hm
      exact ⟨h1, vs, h2, fun i v hv => cell_below h (h3 i v hv)⟩, hI.dist, hI.c.ext (ext_below h)⟩
theorem sl_of {t : Tk} {sz n : Nat} {cs : List PV} {v : Value} (h : RV g H (.sl t sz n cs) v) : RC g.σ (.sl .no sz n cs) v := by
  cases t with
  | no => simpa only [RV] using h
  | nil =>
    simp only [RV, RC] at h ⊢
    obtain ⟨-, a, cap, h1, h2, h3, h4, h5⟩ := h
    exact ⟨fun _ h => (by cases h), a, cap, h1, h2, fun h => (by cases h), h4, h5⟩
  | tok k => simp only [RV] at h; exact h.2.1
theorem bytes_at {σ : Sg} {sz n : Nat} {cs : List PV} {v : Value} {l : List UInt8} (h : RC σ (.sl .no sz n cs) v) (hl : bytes8 cs = some l) (hn : l.length = n) :
    ∃ a cap, v = .slice a n cap ∧ n ≤ cap ∧ (0 < n → ∃ b off, a = some ⟨b, off, none⟩ ∧ ∀ i, i < n → σ b (off + i) = some (.int .u8 ((l.map fun c => (c.toNat : Int)).getD i 0))) := by
  simp only [RC] at h
  obtain ⟨-, a, cap, h1, h2, -, h4, h5⟩ := h
  refine ⟨a, cap, h1, h2, fun hp => ?_⟩
  obtain ⟨b, off, vs, h6, h7, h8⟩ := h5 hp
  have hv := bytes8_ok hl h8
  refine ⟨b, off, h6, fun i hi => ?_⟩
  refine h7 i _ ?_
  rw [hv]
  have hi' : i < l.length := by omega
  simp [List.getD, List.getElem?_map, List.getElem?_eq_getElem hi']
theorem bytesOf_nums (l : List UInt8) : Lib.bytesOf (l.map fun c => (c.toNat : Int)) = l := by
  unfold Lib.bytesOf
  rw [List.map_map]
  conv => rhs; rw [← List.map_id l]
  apply List.map_congr_left
  intro c _
  simp
end

def ovBIB : List PV → Hp → Option (PV × Hp)
  | [.sl t sz n cs, .int .u8 c], H => match bytes8 cs with | some l => if l.length = n then some (.int .i64 (idxB l c.toNat.toUInt8), H) else none | none => none
  | _, _ => none
/-- Where a text stands first in another one. -/
def ovBI : List PV → Hp → Option (PV × Hp)
  | [.sl t sz n cs, .sl t' sz' n' cs'], H => match bytes8 cs, bytes8 cs' with
    | some l, some s => if l.length = n ∧ s.length = n' ∧ n < 4294967281 ∧ 2 ≤ n' ∧ n' ≤ 1000000 then some (.int .i64 (Lib.index l s), H) else none
    | _, _ => none
  | _, _ => none
def strs : List PV → Option (List (List UInt8))
  | [] => some []
  | .str l :: r => match strs r with | some k => some (l :: k) | none => none
  | _ => none
def ovJoin : List PV → Hp → Option (PV × Hp)
  | [.sl t sz n cs, .str s], H => match strs cs with
    | some l => if l.length = n ∧ 0 < n ∧ n ≤ 1000000 ∧ (Lib.join l s).length ≤ 1000000000 then some (.str (Lib.join l s), H) else none
    | none => none
  | _, _ => none

section
variable {P : Program} {f : FuncId}
theorem ok_BIB (he : Enters P f) (hc : ∀ (a : Addr) (n c : Nat) (xs : List Int) (cv : Int) (w : World), xs.length = n → (∀ i, i < n → w.cell? (a.add i) = some (.int .u8 (xs.getD i 0))) →
      Calls P f #[.slice (some a) n c, .int .u8 cv] w fun e w' => e = .returned (.int .i64 (Lib.indexByte (Lib.bytesOf xs) cv.toNat.toUInt8)) ∧ w' = w)
    (hn : ∀ (c : Nat) (cv : Int) (w : World), Calls P f #[.slice none 0 c, .int .u8 cv] w fun e w' => e = .returned (.int .i64 (-1)) ∧ w' = w) :
    CallOk P fun f' args H => if f' = f then ovBIB args H else none := fun f' args H r H' h => by
  dsimp only at h
  split at h
  · rename_i hf
    subst hf
    unfold ovBIB at h
    split at h
    · rename_i t sz n cs c
      split at h
      · rename_i l hl
        split at h
        · rename_i hln
          cases h
          refine ⟨he, fun g w vs hI hr => ?_⟩
          obtain ⟨v, u, rfl, h1, h2⟩ := two_of hr
          obtain ⟨a, cap, rfl, hcap, ha⟩ := bytes_at (sl_of h1) hl hln
          simp only [RV] at h2
          subst h2
          have fin : ∀ (e : Ending) w', (e = .returned (.int .i64 (idxB l c.toNat.toUInt8)) ∧ w' = w) → ∃ v g', e = .returned v ∧ Inv g' H w' ∧ RV g' H (.int .i64 (idxB l c.toNat.toUInt8)) v ∧ Ext g H w g' H w' := by
            rintro e w' ⟨rfl, rfl⟩
            exact ⟨_, g, rfl, hI, by simp only [RV], Ext.refl _ _ _⟩
          cases a with
          | none =>
            have h0 : n = 0 := by
              rcases Nat.eq_zero_or_pos n with h | h
              · exact h
              · obtain ⟨b, off, h3, _⟩ := ha h; cases h3
            subst h0
            obtain rfl : l = [] := List.eq_nil_of_length_eq_zero hln
            exact (hn cap c w).mono fin
          | some a =>
            refine (hc a n cap (l.map fun c => (c.toNat : Int)) c w (by simpa using hln) (fun i hi => ?_)).mono fun e w' h => fin e w' (by rw [bytesOf_nums, idxB_eq] at h; exact h)
            obtain ⟨b, off, h3, h4⟩ := ha (by omega)
            cases h3
            exact (congrArg w.cell? (by simp [Addr.add])).trans (hI.σw _ _ _ (h4 i hi))
        · cases h
      · cases h
    · cases h
  · cases h
theorem index_long {l s : List UInt8} (h : l.length < s.length) : Lib.index l s = -1 := by
  induction l with
  | nil =>
    cases s with
    | nil => simp at h
    | cons x s => rfl
  | cons b l ih =>
    have h1 : s.isPrefixOf (b :: l) = false := by
      rw [Bool.eq_false_iff]
      intro hp
      have := (List.isPrefixOf_iff_prefix.1 hp).length_le
      omega
    unfold Lib.index
    rw [h1, ih (by simp at h; omega)]
    rfl
theorem ok_BI {z : Nat} (hz : glob = some z) (he : Enters P f) (hc : ∀ (a1 a2 : Addr) (n c1 k c2 : Nat) (xs ys : List Int) (m : Int) (w : World), xs.length = n → ys.length = k → (∀ x ∈ xs, 0 ≤ x ∧ x < 256) → (∀ y ∈ ys, 0 ≤ y ∧ y < 256) →
      (∀ i, i < n → w.cell? (a1.add i) = some (.int .u8 (xs.getD i 0))) → (∀ i, i < k → w.cell? (a2.add i) = some (.int .u8 (ys.getD i 0))) → n ≤ c1 → n < 4294967281 → k ≤ 9223372036854775807 → w.cell? ⟨z, 0, none⟩ = some (.int .i64 m) →
      Calls P f #[.slice (some a1) n c1, .slice (some a2) k c2] w fun e w' => e = .returned (.int .i64 (Lib.index (Lib.bytesOf xs) (Lib.bytesOf ys))) ∧ ∃ q, w' = w.drewN q)
    (hl : ∀ (p q : Option Addr) (n c m d : Nat) (w : World), 2 ≤ m → n < m → m ≤ 9223372036854775807 → Calls P f #[.slice p n c, .slice q m d] w fun e w' => e = .returned (.int .i64 (-1)) ∧ w' = w) :
    CallOk P fun f' args H => if f' = f then ovBI args H else none := fun f' args H r H' h => by
  dsimp only at h
  split at h
  · rename_i hf
    subst hf
    unfold ovBI at h
    split at h
    · rename_i t sz n cs t' sz' n' cs'
      split at h
      · rename_i l s h1 h2
        split at h
        · rename_i hh
          obtain ⟨hln, hsn, hn, hn2, hn3⟩ := hh
          cases h
          refine ⟨he, fun g w vs hI hr => ?_⟩
          obtain ⟨v, u, rfl, hv, hu⟩ := two_of hr
          obtain ⟨a, cap, rfl, hcap, ha⟩ := bytes_at (sl_of hv) h1 hln
          obtain ⟨a', cap', rfl, hcap', ha'⟩ := bytes_at (sl_of hu) h2 hsn
          rcases Nat.lt_or_ge n n' with hlt | hge
          · refine (hl a a' n cap n' cap' w hn2 hlt (by omega)).mono ?_
            rintro e w' ⟨rfl, rfl⟩
            exact ⟨_, g, rfl, hI, by simp only [RV]; rw [index_long (by omega)], Ext.refl _ _ _⟩
          · obtain ⟨b, off, rfl, h3⟩ := ha (by omega)
            obtain ⟨b', off', rfl, h4⟩ := ha' (by omega)
            obtain ⟨m, hm⟩ := hI.z z hz
            have hr8 : ∀ (l : List UInt8), ∀ x ∈ l.map (fun c => (c.toNat : Int)), 0 ≤ x ∧ x < 256 := by
              intro l x hx
              obtain ⟨c, _, rfl⟩ := List.mem_map.1 hx
              have := c.toNat_lt
              omega
            refine (hc ⟨b, off, none⟩ ⟨b', off', none⟩ n cap n' cap' (l.map fun (c : UInt8) => (c.toNat : Int)) (s.map fun (c : UInt8) => (c.toNat : Int)) m w (by simpa using hln) (by simpa using hsn) (hr8 l) (hr8 s)
              (fun i hi => (congrArg w.cell? (by simp [Addr.add])).trans (hI.σw _ _ _ (h3 i hi))) (fun i hi => (congrArg w.cell? (by simp [Addr.add])).trans (hI.σw _ _ _ (h4 i hi))) hcap hn (by omega) (hI.σw _ _ _ hm)).mono ?_
            rintro e w' ⟨rfl, q, rfl⟩
            have hb : Below w.heap.size w (w.drewN q) := ⟨rfl, rfl, rfl, Nat.le_refl _, fun _ _ => rfl⟩
            exact ⟨_, g, rfl, inv_below hI hb, by simp only [RV, bytesOf_nums], ext_below hb⟩
        · cases h
      · cases h
    · cases h
  · cases h
theorem strs_ok {σ : Sg} : ∀ {cs : List PV} {l : List (List UInt8)} {vs : List Value}, strs cs = some l → RCs σ cs vs → vs = l.map fun s => .string ⟨s.toArray⟩
  | [], l, vs, h, hr => by simp only [strs, Option.some.injEq] at h; subst h; simp only [RCs] at hr; subst hr; rfl
  | p :: cs, l, vs, h, hr => by
    cases p <;> first | (simp only [strs, reduceCtorEq] at h; done) | skip
    rename_i s
    simp only [strs] at h
    split at h
    · rename_i k hk
      cases h
      simp only [RCs, RC] at hr
      obtain ⟨v, r, rfl, rfl, h2⟩ := hr
      rw [strs_ok hk h2]
      rfl
    · cases h
theorem ok_Join (he : Enters P f) (hc : ∀ (bk o c : Nat) (xs : List ByteArray) (sep : ByteArray) (w : World), (∀ (j : Nat) x, xs[j]? = some x → w.cell? ⟨bk, o + j, none⟩ = some (.string x)) → bk < w.heap.size → xs.length ≤ 140737488355328 → xs.length ≤ c →
      (Lib.join (xs.map (·.data.toList)) sep.data.toList).length ≤ 140737488355328 →
      Calls P f #[.slice (some ⟨bk, o, none⟩) xs.length c, .string sep] w fun e w' => e = .returned (.string ⟨(Lib.join (xs.map (·.data.toList)) sep.data.toList).toArray⟩) ∧ Below w.heap.size w w') :
    CallOk P fun f' args H => if f' = f then ovJoin args H else none := fun f' args H r H' h => by
  dsimp only at h
  split at h
  · rename_i hf
    subst hf
    unfold ovJoin at h
    split at h
    · rename_i t sz n cs s
      split at h
      · rename_i l hl
        split at h
        · rename_i hh
          obtain ⟨hn, hn0, hn1, hj⟩ := hh
          cases h
          refine ⟨he, fun g w vs hI hr => ?_⟩
          obtain ⟨v, u, rfl, hv, hu⟩ := two_of hr
          obtain rfl := str_of hu
          have hv' := sl_of hv
          simp only [RC] at hv'
          obtain ⟨-, a, cap, rfl, hcap, -, h4, h5⟩ := hv'
          obtain ⟨b, off, vs, rfl, h7, h8⟩ := h5 hn0
          have hvs := strs_ok hl h8
          have hm : (l.map fun s => (⟨s.toArray⟩ : ByteArray)).map (·.data.toList) = l := by
            rw [List.map_map]
            conv => rhs; rw [← List.map_id l]
            exact List.map_congr_left fun c _ => rfl
          have hcell : ∀ (j : Nat) x, (l.map fun s => (⟨s.toArray⟩ : ByteArray))[j]? = some x → w.cell? ⟨b, off + j, none⟩ = some (.string x) := fun j x hx => by
            refine hI.σw _ _ _ (h7 j _ ?_)
            rw [hvs]
            rw [List.getElem?_map] at hx ⊢
            cases hs : l[j]? with
            | none => rw [hs] at hx; cases hx
            | some s => rw [hs] at hx; cases hx; rfl
          have hbk : b < w.heap.size := by
            rcases Nat.lt_or_ge b w.heap.size with hlt | hge
            · exact hlt
            · exfalso
              cases l with
              | nil => simp at hn; omega
              | cons s l =>
                have := hcell 0 _ rfl
                rw [World.cell?, Array.getElem?_eq_none hge] at this
                cases this
          have := hc b off cap (l.map fun s => (⟨s.toArray⟩ : ByteArray)) ⟨s.toArray⟩ w hcell hbk (by simp; omega) (by simp; omega) (by rw [hm]; show (Lib.join l s).length ≤ _; omega)
          rw [hm] at this
          rw [List.length_map, hn] at this
          refine this.mono ?_
          rintro e w' ⟨rfl, hb⟩
          exact ⟨_, g, rfl, inv_below hI hb, by simp only [RV], ext_below hb⟩
        · cases h
      · cases h
    · cases h
  · cases h
end
section
variable {P : Program} {f : FuncId}
/-- A block that a callee made: its first cells told for good, the right to write behind them. -/
theorem growB {g : Gh} {H : Hp} {w w' : World} (hI : Inv g H w) (hB : Below w.heap.size w w') {k : Nat} (hk : w.heap.size ≤ k) {carr : Array Value} {el : TypeId} {fr : Nat × Nat} (hw : w'.heap[k]? = some (.cells carr el fr))
    (vs : List Value) (hvs : ∀ (i : Nat) v, vs[i]? = some v → carr[i]? = some v) (hone : ∀ v ∈ vs, v.oneCell' = true)
    (top : Nat) (hl : vs.length ≤ top) (ht : top ≤ carr.size) (hf : FrOk fr carr.size) :
    ∃ g', Inv g' (H ++ [.tok]) w' ∧ Ext g H w g' (H ++ [.tok]) w' ∧ g'.σ.holds k 0 vs ∧ g'.μ H.length = some (k, vs.length, top) := by
  have hle : g.σ.le (g.σ.put k 0 vs) := Sg.put_le (fun i _ => hI.σ_new _ hk)
  have ha' : ∀ id, id < H.length → (Alive (H ++ [.tok]) id ↔ Alive H id) := fun id hid => by unfold Alive; rw [get_append_old H _ hid]
  have hkl : k < w'.heap.size := by
    rcases Nat.lt_or_ge k w'.heap.size with h | h
    · exact h
    · rw [Array.getElem?_eq_none h] at hw; cases hw
  have hE : Ext g H w ⟨g.σ.put k 0 vs, muPut g.μ H.length (some (k, vs.length, top))⟩ (H ++ [.tok]) w' := by
    refine ⟨hle, fun id hid => muPut_ne (by omega), by simp, fun i hi hi' => ?_, hB.os, hB.tape, hB.output, hB.size, fun i hi _ => hB.block i hi, fun b o hb _ => Sg.put_ne o (by omega), fun b hb => ?_⟩
    · rw [get_append_old H _ hi] at hi'
      exact ⟨hi', muPut_ne (by omega)⟩
    · obtain ⟨id, e, tp, ha, hm⟩ := hb
      by_cases hid : id < H.length
      · have hm' : g.μ id = some (b, e, tp) := by rw [← hm]; exact (muPut_ne (by omega)).symm
        exact .inl ⟨id, e, tp, (ha' id hid).1 ha, hm'⟩
      · have := alive_append_one ha (by omega)
        subst this
        have hm' : some (k, vs.length, top) = some (b, e, tp) := by rw [← hm]; exact (muPut_self _ _ _).symm
        cases hm'
        exact .inr hk
  refine ⟨⟨g.σ.put k 0 vs, muPut g.μ H.length (some (k, vs.length, top))⟩, ⟨fun b o v hv => ?_, Sg.put_one hI.one hone, hI.z.mono hle, fun id b e tp ha hm => ?_, fun id cs b e tp hc hm => ?_, fun id id' b e tp e' tp' ha hb hm hm' => ?_, hI.c.ext hE⟩, hE, Sg.put_holds _ _ _ _, muPut_self _ _ _⟩
  · by_cases hb : b = k
    · subst hb
      have hv' : Sg.put g.σ b 0 vs b o = some v := hv
      unfold Sg.put at hv'
      by_cases hc : b = b ∧ 0 ≤ o ∧ o < 0 + vs.length
      · rw [if_pos hc] at hv'
        have := hvs _ _ hv'
        unfold World.cell?
        simp only [hw]
        simpa using this
      · rw [if_neg hc, hI.σ_new _ hk] at hv'
        cases hv'
    · have hv' : Sg.put g.σ k 0 vs b o = some v := hv
      rw [Sg.put_ne o hb] at hv'
      exact cell_below hB (hI.σw b o v hv')
  · by_cases hid : id < H.length
    · have hm' : g.μ id = some (b, e, tp) := by rw [← hm]; exact (muPut_ne (by omega)).symm
      have hal := (ha' id hid).1 ha
      obtain ⟨carr', el', fr', h4, h5, h6, h7, h8⟩ := hI.blk id b e tp hal hm'
      have hb := hI.lt hal hm'
      exact ⟨carr', el', fr', by rw [hB.block b hb]; exact h4, h5, h6, h7, fun o ho => by
        show Sg.put g.σ k 0 vs b o = none
        rw [Sg.put_ne o (by omega)]; exact h8 o ho⟩
    · have := alive_append_one ha (by omega)
      subst this
      have hm' : some (k, vs.length, top) = some (b, e, tp) := by rw [← hm]; exact (muPut_self _ _ _).symm
      cases hm'
      exact ⟨carr, el, fr, hw, hl, ht, hf, fun o ho => by
        show Sg.put g.σ k 0 vs k o = none
        unfold Sg.put
        rw [if_neg (by omega)]; exact hI.σ_new _ hk⟩
  · by_cases hid : id < H.length
    · have hm' : g.μ id = some (b, e, tp) := by rw [← hm]; exact (muPut_ne (by omega)).symm
      rw [get_append_old H _ hid] at hc
      obtain ⟨h5, us, h6, h7⟩ := hI.obj id cs b e tp hc hm'
      exact ⟨h5, us, h6.ext hE, fun i v hv => cell_below hB (h7 i v hv)⟩
    · have := alive_append_one (.inr ⟨cs, hc⟩) (by omega)
      subst this
      rw [get_append_self] at hc
      cases hc
  · by_cases hid : id < H.length
    · have hm1 : g.μ id = some (b, e, tp) := by rw [← hm]; exact (muPut_ne (by omega)).symm
      have hal := (ha' id hid).1 ha
      have hb' := hI.lt hal hm1
      by_cases hid' : id' < H.length
      · have hm2 : g.μ id' = some (b, e', tp') := by rw [← hm']; exact (muPut_ne (by omega)).symm
        exact hI.dist id id' b e tp e' tp' hal ((ha' id' hid').1 hb) hm1 hm2
      · have := alive_append_one hb (by omega)
        subst this
        have hm2 : some (k, vs.length, top) = some (b, e', tp') := by rw [← hm']; exact (muPut_self _ _ _).symm
        cases hm2
        omega
    · have := alive_append_one ha (by omega)
      subst this
      have hm1 : some (k, vs.length, top) = some (b, e, tp) := by rw [← hm]; exact (muPut_self _ _ _).symm
      cases hm1
      by_cases hid' : id' < H.length
      · have hm2 : g.μ id' = some (k, e', tp') := by rw [← hm']; exact (muPut_ne (by omega)).symm
        have := hI.lt ((ha' id' hid').1 hb) hm2
        omega
      · exact (alive_append_one hb (by omega)).symm
/-- A right to nothing: a nil slice's. -/
theorem grow_nil {g : Gh} {H : Hp} {w : World} (hI : Inv g H w) : ∃ g', Inv g' (H ++ [.tok]) w ∧ Ext g H w g' (H ++ [.tok]) w ∧ g'.σ = g.σ ∧ g'.μ H.length = none := by
  have ha' : ∀ id, id < H.length → (Alive (H ++ [.tok]) id ↔ Alive H id) := fun id hid => by unfold Alive; rw [get_append_old H _ hid]
  have back : ∀ id x, muPut g.μ H.length none id = some x → id < H.length ∨ H.length < id := fun id x h => by
    by_cases he : id = H.length
    · subst he; rw [muPut_self] at h; cases h
    · omega
  have lt : ∀ id x, Alive (H ++ [.tok]) id → muPut g.μ H.length none id = some x → id < H.length := fun id x ha h => by
    rcases back id x h with h | h
    · exact h
    · have := ha.lt; simp at this; omega
  have hE : Ext g H w ⟨g.σ, muPut g.μ H.length none⟩ (H ++ [.tok]) w := by
    refine ⟨fun _ _ _ h => h, fun id hid => muPut_ne (by omega), by simp, fun i hi hi' => ?_, rfl, rfl, rfl, Nat.le_refl _, fun _ _ _ => rfl, fun _ _ _ _ => rfl, fun b hb => ?_⟩
    · rw [get_append_old H _ hi] at hi'
      exact ⟨hi', muPut_ne (by omega)⟩
    · obtain ⟨id, e, tp, ha, hm⟩ := hb
      have hid := lt id _ ha hm
      exact .inl ⟨id, e, tp, (ha' id hid).1 ha, by rw [← hm]; exact (muPut_ne (by omega)).symm⟩
  refine ⟨⟨g.σ, muPut g.μ H.length none⟩, ⟨hI.σw, hI.one, hI.z, fun id b e tp ha hm => ?_, fun id cs b e tp hc hm => ?_, fun id id' b e tp e' tp' ha hb hm hm' => ?_, hI.c.ext hE⟩, hE, rfl, muPut_self _ _ _⟩
  · have hid := lt id _ ha hm
    exact hI.blk id b e tp ((ha' id hid).1 ha) (by rw [← hm]; exact (muPut_ne (by omega)).symm)
  · have hid := lt id _ (.inr ⟨cs, hc⟩) hm
    rw [get_append_old H _ hid] at hc
    obtain ⟨h5, us, h6, h7⟩ := hI.obj id cs b e tp hc (by rw [← hm]; exact (muPut_ne (by omega)).symm)
    exact ⟨h5, us, h6.ext hE, h7⟩
  · have h1 := lt id _ ha hm
    have h2 := lt id' _ hb hm'
    exact hI.dist id id' b e tp e' tp' ((ha' id h1).1 ha) ((ha' id' h2).1 hb) (by rw [← hm]; exact (muPut_ne (by omega)).symm) (by rw [← hm']; exact (muPut_ne (by omega)).symm)
/-- bytes.Clone: a row of its own. -/
def ovClone : List PV → Hp → Option (PV × Hp)
  | [.sl t sz n cs], H => match bytes8 cs with | some l => if l.length = n ∧ n ≤ 140737488355328 then some (.sl (.tok H.length) 1 n cs, H ++ [.tok]) else none | none => none
  | _, _ => none
theorem ok_Clone {el : TypeId} (he : Enters P f) (hc : ∀ (a : Addr) (n c : Nat) (xs : List Int) (w : World), xs.length = n → n ≤ 140737488355328 → (∀ i, i < n → w.cell? (a.add i) = some (.int .u8 (xs.getD i 0))) →
      Calls P f #[.slice (some a) n c] w fun e w' => ∃ v', e = .returned v' ∧ w'.ownsRow w.heap.size el 1 v' n (xs.map (Value.int .u8)) ∧ v' ≠ .slice none 0 0 ∧ Below w.heap.size w w')
    (hn : ∀ (n c : Nat) (w : World), Calls P f #[.slice none n c] w fun e w' => e = .returned (.slice none 0 0) ∧ w' = w) :
    CallOk P fun f' args H => if f' = f then ovClone args H else none := fun f' args H r H' h => by
  dsimp only at h
  split at h
  · rename_i hf
    subst hf
    unfold ovClone at h
    split at h
    · rename_i t sz n cs
      split at h
      · rename_i l hl
        split at h
        · rename_i hh
          obtain ⟨hln, hbig⟩ := hh
          cases h
          refine ⟨he, fun g w vs hI hr => ?_⟩
          obtain ⟨v, rfl, h1⟩ : ∃ v, vs = [v] ∧ RV g H (.sl t sz n cs) v := by
            simp only [RVs] at hr
            obtain ⟨v, r, rfl, h1, rfl⟩ := hr
            exact ⟨v, rfl, h1⟩
          have hrc := sl_of h1
          obtain ⟨a, cap, rfl, hcap, ha⟩ := bytes_at hrc hl hln
          have hcl : cs.length = n := by rw [← bytes8_len hl]; exact hln
          cases a with
          | none =>
            have h0 : n = 0 := by
              rcases Nat.eq_zero_or_pos n with h | h
              · exact h
              · obtain ⟨b, off, h3, _⟩ := ha h; cases h3
            subst h0
            refine (hn 0 cap w).mono ?_
            rintro e w' ⟨rfl, rfl⟩
            obtain ⟨g', h2, h3, h4, h5⟩ := grow_nil hI
            refine ⟨_, g', rfl, h2, ?_, h3⟩
            simp only [RV, RC]
            refine ⟨by simp, ⟨fun _ h => (by cases h), none, 0, rfl, Nat.le_refl _, fun h => (by cases h), by omega, fun h => absurd h (Nat.lt_irrefl 0)⟩, fun _ => ?_⟩
            unfold OwnAt
            rw [h5]
            exact ⟨none, rfl⟩
          | some a =>
            refine (hc a n cap (l.map fun (c : UInt8) => (c.toNat : Int)) w (by simpa using hln) hbig (fun i hi => ?_)).mono ?_
            · obtain ⟨b, off, h3, h4⟩ := ha (by omega)
              cases h3
              exact (congrArg w.cell? (by simp [Addr.add])).trans (hI.σw _ _ _ (h4 i hi))
            · rintro e w' ⟨v', rfl, ho, hne, hB⟩
              obtain ⟨ho1, ho2⟩ := ho
              rcases ho2 with ⟨h2, _⟩ | ⟨k, cap', cur, rfl, hk, hg, hcap', hmax, hsz, htk⟩
              · exact absurd h2 hne
              · have hvl : ((l.map fun (c : UInt8) => (c.toNat : Int)).map (Value.int .u8)).length = n := by simpa using hln
                obtain ⟨g', h2, h3, h4, h5⟩ := growB hI hB hk hg ((l.map fun (c : UInt8) => (c.toNat : Int)).map (Value.int .u8)) (fun i v hv => by
                    have hi : i < n := by rw [← hvl]; exact (List.getElem?_eq_some_iff.1 hv).1
                    rw [← htk, List.getElem?_take] at hv
                    rw [if_pos (by omega)] at hv
                    simpa using hv) (fun v hv => by obtain ⟨x, _, rfl⟩ := List.mem_map.1 hv; rfl) cap' (by omega) (by omega) (.inl rfl)
                refine ⟨_, g', rfl, h2, ?_, h3⟩
                simp only [RV, RC]
                refine ⟨by simp, ⟨fun _ h => (by cases h), some ⟨k, 0, none⟩, cap', rfl, hcap', fun h => (by cases h), by omega, fun hp => ⟨k, 0, _, rfl, h4, ?_⟩⟩, fun _ => ?_⟩
                · simp only [RC] at hrc
                  obtain ⟨-, _, _, _, _, _, _, h6⟩ := hrc
                  obtain ⟨b, off, us, _, _, h7⟩ := h6 hp
                  have := bytes8_ok hl h7
                  rw [show (l.map fun (c : UInt8) => (c.toNat : Int)).map (Value.int .u8) = us by rw [this, List.map_map]; rfl]
                  exact RCs.mono h3.σ h7
                · unfold OwnAt
                  rw [h5]
                  exact ⟨Nat.zero_lt_one, 0, n, cap', rfl, by omega, by omega, .inr (Nat.le_trans hmax (by decide))⟩
        · cases h
      · cases h
    · cases h
  · cases h
end
section
variable {P : Program} {f : FuncId}
def ovItoa : List PV → Hp → Option (PV × Hp)
  | [.int .i64 n], H => if -9223372036854775808 ≤ n ∧ n ≤ 9223372036854775807 then some (.str (Lib.itoa n), H) else none
  | _, _ => none
theorem one_of {g : Gh} {H : Hp} {p : PV} {vs : List Value} (h : RVs g H [p] vs) : ∃ v, vs = [v] ∧ RV g H p v := by
  simp only [RVs] at h
  obtain ⟨v, r, rfl, h1, rfl⟩ := h
  exact ⟨v, rfl, h1⟩
theorem ok_Itoa {b : Nat} (hb : b ∈ constB) (he : Enters P f) (hc : ∀ (n : Int) (w : World), -9223372036854775808 ≤ n → n ≤ 9223372036854775807 → (∃ cs el fr, w.heap[b]? = some (.cells cs el fr) ∧ blockOk b cs) →
      Calls P f #[.int .i64 n] w fun e w' => e = .returned (.string ⟨(Lib.itoa n).toArray⟩) ∧ Below w.heap.size w w') :
    CallOk P fun f' args H => if f' = f then ovItoa args H else none := fun f' args H r H' h => by
  dsimp only at h
  split at h
  · rename_i hf
    subst hf
    unfold ovItoa at h
    split at h
    · rename_i n
      split at h
      · rename_i hn
        cases h
        refine ⟨he, fun g w vs hI hr => ?_⟩
        obtain ⟨v, rfl, h1⟩ := one_of hr
        simp only [RV] at h1
        subst h1
        obtain ⟨cs, el, fr, h2, h3, _⟩ := hI.c b hb
        refine (hc n w hn.1 hn.2 ⟨cs, el, fr, h2, h3⟩).mono ?_
        rintro e w' ⟨rfl, hB⟩
        exact ⟨_, g, rfl, inv_below hI hB, by simp only [RV], ext_below hB⟩
      · cases h
    · cases h
  · cases h
/-- slices.Grow of a nil slice: a row of its own, with room. -/
def ovGrow : List PV → Hp → Option (PV × Hp)
  | [.sl .nil _ 0 _, .int .i64 n], H => if 0 < n ∧ n ≤ 1000000000 then some (.sl (.tok H.length) 1 0 [], H ++ [.tok]) else none
  | _, _ => none
theorem ok_Grow (hmk : marks = true) (he : Enters P f) (hc : ∀ (n : Nat) (w : World), 0 < n → n ≤ 1000000000 →
      Calls P f #[.slice none 0 0, .int .i64 n] w fun e w' => ∃ c carr el, c ≤ carr.size ∧ e = .returned (.slice (some ⟨w.heap.size, 0, none⟩) 0 c) ∧ w' = w.drew.alloc (.cells carr el)) :
    CallOk P fun f' args H => if f' = f then ovGrow args H else none := fun f' args H r H' h => by
  dsimp only at h
  split at h
  · rename_i hf
    subst hf
    unfold ovGrow at h
    split at h
    · rename_i z cs n
      split at h
      · rename_i hn
        cases h
        refine ⟨he, fun g w vs hI hr => ?_⟩
        obtain ⟨v, u, rfl, h1, h2⟩ := two_of hr
        simp only [RV, RC] at h1 h2
        subst h2
        obtain ⟨_, a, cap, rfl, _, h3, _⟩ := h1
        obtain ⟨rfl, _, rfl⟩ := h3 trivial
        obtain ⟨n, rfl⟩ : ∃ m : Nat, n = (m : Int) := ⟨n.toNat, by omega⟩
        refine (hc n w (by omega) (by omega)).mono ?_
        rintro e w' ⟨c, carr, el, hcc, rfl, rfl⟩
        obtain ⟨g', h4, h5, h6, h7⟩ := grow_tok (w' := w.drew.alloc (.cells carr el)) hI (carr := carr) (el := el) (fr := (0, 0)) rfl rfl rfl rfl [] (fun i v h => by simp at h) (fun v h => by cases h) carr.size (Nat.zero_le _) (Nat.le_refl _) (.inl rfl)
        refine ⟨_, g', rfl, h4, ?_, h5⟩
        simp only [RV, RC]
        refine ⟨by simp, ⟨fun _ h => (by cases h), _, c, rfl, Nat.zero_le _, fun h => (by cases h), by simp, fun h => absurd h (Nat.lt_irrefl 0)⟩, fun _ => ?_⟩
        unfold OwnAt
        rw [h7]
        exact ⟨Nat.zero_lt_one, 0, 0, c, rfl, rfl, by simpa using hcc, .inl hmk⟩
      · cases h
    · cases h
  · cases h
end
end Go.Proofs.YtnljpfjoboafoaaDoor.Ev
