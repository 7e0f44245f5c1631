/- That the evaluator tells what the operations do: bytes of strings, append. -/
import Derived.Test.YtnljpfjoboafoaaDoorEv9
namespace Go.Proofs.YtnljpfjoboafoaaDoor.Ev
set_option linter.all false
open Go Go.RowKit
section
variable {P : Program} {g : Gh} {H : Hp} {w : World} {tm : List PV} {a : Act} {call : Nat → List PV → Hp → Option (PV × Hp)}

theorem isU8_spec {e : TypeId} (h : isU8 P e = true) : P.underlying e = some (.int .u8) := by
  unfold isU8 at h
  split at h
  · assumption
  · cases h

theorem freeze_heap (w : World) (b o : Nat) {carr : Array Value} {el : TypeId} {fr : Nat × Nat} (hb : w.heap[b]? = some (.cells carr el fr)) :
    (w.freeze ⟨b, o, none⟩ 1).heap[b]? = some (.cells carr el (if fr.1 == fr.2 then (o, o + 1) else (min fr.1 o, max fr.2 (o + 1)))) ∧ (∀ k, k ≠ b → (w.freeze ⟨b, o, none⟩ 1).heap[k]? = w.heap[k]?) ∧ (w.freeze ⟨b, o, none⟩ 1).heap.size = w.heap.size := by
  obtain ⟨lo, hi⟩ := fr
  refine ⟨?_, fun k hk => ?_, ?_⟩
  · simp [World.freeze, Array.getElem?_modify, hb]
  · simp only [World.freeze, Nat.one_ne_zero, if_false, Array.getElem?_modify]
    rw [if_neg (by omega)]
  · simp [World.freeze]

theorem snd_frz (hmk : marks = true) (hI : Inv g H w) {s e : TypeId} (hs : P.underlying s = some (.slice e)) (he : P.underlying e = some (.int .u8)) {k sz n : Nat} {cs : List PV} {u : Value} (hu : RV g H (.sl (.tok k) sz n cs) u) (hk : H[k]? = some .tok) (h0 : 0 < n) :
    Runs P g H w (do pure (Next.value (← convert s s u))) (.sl (.tok k) sz n cs) H := by
  have hu0 := hu
  simp only [RV] at hu
  obtain ⟨hkl, hrc, hown⟩ := hu
  have hown := hown hk
  unfold OwnAt at hown
  have hrc' := hrc
  simp only [RC] at hrc'
  obtain ⟨_, A, cap, rfl, hc, _, hl, hx⟩ := hrc'
  obtain ⟨b, off, vs, rfl, h1, h2⟩ := hx h0
  cases hm : g.μ k with
  | none =>
    rw [hm] at hown
    obtain ⟨_, hv⟩ := hown
    simp only [Value.slice.injEq] at hv
    omega
  | some x =>
    obtain ⟨b', e', top⟩ := x
    rw [hm] at hown
    simp only at hown
    obtain ⟨_, off', n', cap', hv, _, _⟩ := hown
    simp only [Value.slice.injEq, Option.some.injEq, Addr.mk.injEq, and_true] at hv
    obtain ⟨⟨rfl, rfl⟩, rfl, rfl⟩ := hv
    obtain ⟨carr, el, fr, hb, hbe, hbt, hbf, hbs⟩ := hI.blk k b e' top (.inl hk) hm
    obtain ⟨hb', hoth, hsz⟩ := freeze_heap w b carr.size hb
    have hcell : ∀ b' o, (w.freeze ⟨b, carr.size, none⟩ 1).cell? ⟨b', o, none⟩ = w.cell? ⟨b', o, none⟩ := fun b' o => by
      by_cases hbb : b' = b
      · subst hbb
        simp only [World.cell?, hb', hb]
      · exact World.cell?_of_block (w := w) (hoth b' hbb)
    have hfr : FrOk (if fr.1 == fr.2 then (carr.size, carr.size + 1) else (min fr.1 carr.size, max fr.2 (carr.size + 1))) carr.size := by
      unfold FrOk at hbf ⊢
      by_cases hq : fr.1 = fr.2
      · rw [if_pos (by simpa using hq)]; exact .inr ⟨hmk, Nat.le_refl _⟩
      · rw [if_neg (by simpa using hq)]
        refine .inr ⟨hmk, ?_⟩
        show carr.size ≤ min fr.1 carr.size
        rcases hbf with h | ⟨_, h⟩
        · exact absurd h hq
        · omega
    have hnot : ∀ id b' e2 top2, id ≠ k → Alive H id → g.μ id = some (b', e2, top2) → b' ≠ b := fun id b' e2 top2 hne ha hm' heq => by
      subst heq
      exact hne (hI.dist id k b' e2 top2 e' top ha (.inl hk) hm' hm)
    have hEE : Ext g H w g H (w.freeze ⟨b, carr.size, none⟩ 1) := ⟨fun _ _ _ h => h, fun _ _ => rfl, Nat.le_refl _, fun _ _ h => ⟨h, rfl⟩, rfl, rfl, rfl, by rw [hsz]; exact Nat.le_refl _, fun i hi ho => hoth i (fun heq => ho ⟨k, e', top, .inl hk, heq ▸ hm⟩), fun _ _ _ _ => rfl, fun _ h => .inl h⟩
    refine Runs.of (v := .slice (some ⟨b, off, none⟩) n cap) (w' := w.freeze ⟨b, carr.size, none⟩ 1) (g' := g) (run_v_ok ?_) ?_ hu0 hEE
    · have hsh : w.shape? b = some (el, carr.size) := by simp [World.shape?, hb]
      simp [convert, run_underlying hs, run_underlying he, markStringish, hsh]
    · exact ⟨fun b' o v hv => by rw [hcell]; exact hI.σw b' o v hv, hI.one, hI.z, fun id b' e2 top2 ha hm' => by
          by_cases hid : id = k
          · subst hid
            rw [hm] at hm'
            cases hm'
            exact ⟨carr, el, _, hb', hbe, hbt, hfr, hbs⟩
          · rw [hoth b' (hnot id b' e2 top2 hid ha hm')]; exact hI.blk id b' e2 top2 ha hm',
        fun id cs' b' e2 top2 hc' hm' => by
          obtain ⟨h4, us, h5, h6⟩ := hI.obj id cs' b' e2 top2 hc' hm'
          exact ⟨h4, us, h5, fun i v hv => by rw [hcell]; exact h6 i v hv⟩, hI.dist, hI.c.ext hEE⟩

theorem RCs_b8 {σ : Sg} : ∀ l : List UInt8, RCs σ (l.map b8) (l.map fun c => Value.int .u8 c.toNat)
  | [] => by simp only [List.map_nil, RCs]
  | c :: l => by simp only [List.map_cons, RCs]; exact ⟨_, _, rfl, by simp only [b8, RC], RCs_b8 l⟩

theorem snd_s2b (hmk : marks = true) (hI : Inv g H w) {s d e : TypeId} (hs : P.underlying s = some .string) (hd : P.underlying d = some (.slice e)) (he : P.underlying e = some (.int .u8)) {l : List UInt8} (rowed : Bool) :
    Runs P g H w (do pure (Next.value (← convert s d (.string ⟨l.toArray⟩)))) (if rowed then .row H.length 0 1 l.length else .sl (.tok H.length) 1 l.length (l.map b8)) (H ++ [if rowed then .cells (l.map b8) else .tok]) := by
  have hsz : (⟨l.toArray⟩ : ByteArray).size = l.length := by simp [ByteArray.size]
  obtain ⟨cap, hcap⟩ : ∃ c, (Question.appendCap l.length 0 e).cut (w.tape w.drawn (.appendCap l.length 0 e)) = c := ⟨_, rfl⟩
  have hge : l.length ≤ cap := by rw [← hcap]; simp only [Question.cut]; omega
  obtain ⟨carr, hcarr⟩ : ∃ c : Array Value, (l.map fun c => Value.int .u8 c.toNat).toArray ++ Array.replicate (cap - l.length) (Value.int .u8 0) = c := ⟨_, rfl⟩
  have hcs : carr.size = cap := by rw [← hcarr]; simp; omega
  let wa : World := { w with drawn := w.drawn + 1, heap := w.heap.push (.cells carr e) }
  have hba : wa.heap[w.heap.size]? = some (.cells carr e (0, 0)) := by simp [wa]
  obtain ⟨hb', hoth, hszf⟩ := freeze_heap wa w.heap.size cap hba
  have hpush : (wa.freeze ⟨w.heap.size, cap, none⟩ 1).heap = w.heap.push (.cells carr e (cap, cap + 1)) := by
    apply Array.ext_getElem?
    intro i
    by_cases hi : i = w.heap.size
    · subst hi
      rw [hb']
      simp
    · rw [hoth i hi]
      simp only [wa, Array.getElem?_push]
      rw [if_neg hi, if_neg hi]
  have hrun : (convert s d (.string ⟨l.toArray⟩)).run P w = .ok (.slice (some ⟨w.heap.size, 0, none⟩) l.length cap) (wa.freeze ⟨w.heap.size, cap, none⟩ 1) := by
    have hsh : wa.shape? w.heap.size = some (e, carr.size) := by simp [World.shape?, hba]
    have hcarr' : Array.map (fun b : UInt8 => Value.int .u8 b.toNat) l.toArray ++ Array.replicate (cap - l.length) (Value.int .u8 0) = carr := by rw [← hcarr]; simp
    simp only [convert, Sem.run_bind, run_underlying hs, run_underlying hd, run_underlying he, Result.andThen_ok, Conv.stringToBytes, hsz, run_choose, Question.forced, Bool.false_eq_true, if_false, hcap, hcarr', newRow, run_newObj, Sem.run_pure, markStringish, run_shape]
    have : World.shape? { w with drawn := w.drawn + 1, heap := w.heap.push (.cells carr e) } w.heap.size = some (e, carr.size) := hsh
    rw [this]
    simp only [hcs, run_freeze, Result.andThen_ok]
    rfl
  have hvs : ∀ (i : Nat) v, (l.map fun c => Value.int .u8 c.toNat)[i]? = some v → carr[i]? = some v := fun i v hv => by
    have hlt : i < l.length := by have := (List.getElem?_eq_some_iff.1 hv).1; simpa using this
    rw [← hcarr, Array.getElem?_append_left (by simpa using hlt)]
    simpa using hv
  cases rowed with
  | false =>
    obtain ⟨g', h3, h4, h5, h6⟩ := grow_tok (w' := wa.freeze ⟨w.heap.size, cap, none⟩ 1) hI hpush rfl rfl rfl _ hvs (fun v hv => by obtain ⟨c, _, rfl⟩ := List.mem_map.1 hv; rfl) cap (by simpa using hge) (by omega) (.inr ⟨hmk, by rw [hcs]; exact Nat.le_refl _⟩)
    refine Runs.of (run_v_ok hrun) (by simpa using h3) ?_ (by simpa using h4)
    simp only [Bool.false_eq_true, if_false, RV]
    refine ⟨by simp, rv_sl_new h5 (RCs_b8 l) (by simp) cap hge, fun _ => ?_⟩
    unfold OwnAt
    rw [h6]
    exact ⟨Nat.one_pos, 0, l.length, cap, rfl, by simp, by simp, .inl hmk⟩
  | true =>
    obtain ⟨g', h3, h4, h5⟩ := grow_obj (w' := wa.freeze ⟨w.heap.size, cap, none⟩ 1) hI hpush rfl rfl rfl (RVs.of_RCs (RCs_b8 l)) hvs (by simp; omega) (.inr ⟨hmk, by rw [hcs]; exact Nat.le_refl _⟩)
    refine Runs.of (run_v_ok hrun) (by simpa using h3) ?_ (by simpa using h4)
    simp only [if_true, RV]
    exact ⟨by simp, _, _, _, _, h5, rfl, hge, by rw [hcs]; omega, .inl hmk⟩

theorem run_b2s {A : Option Addr} {n c : Nat} {l : List UInt8} {s d e : TypeId} (hs : P.underlying s = some (.slice e)) (he : P.underlying e = some (.int .u8)) (hd : P.underlying d = some .string)
    (h : n = 0 ∧ l = [] ∨ ∃ b off, A = some ⟨b, off, none⟩ ∧ l.length = n ∧ ∀ (i : Nat) c, l[i]? = some c → w.cell? ⟨b, off + i, none⟩ = some (.int .u8 c.toNat)) : (convert s d (.slice A n c)).run P w = .ok (.string ⟨l.toArray⟩) w := by
  have hnum : (l.map fun c : UInt8 => (c.toNat : Int)).map (fun n : Int => UInt8.ofNat n.toNat) = l := by
    rw [List.map_map]
    conv => rhs; rw [← List.map_id l]
    apply List.map_congr_left
    intro c _
    simp
  have hstr : strOfNums (l.map fun c => (c.toNat : Int)) = ⟨l.toArray⟩ := by unfold strOfNums; rw [hnum]
  cases A with
  | none =>
    rcases h with ⟨rfl, rfl⟩ | ⟨b, off, h, _⟩
    · rw [run_convert_bytes_nil w s e hs he 0 c d hd]; rfl
    · cases h
  | some ad =>
    rcases h with ⟨rfl, rfl⟩ | ⟨b, off, hA, h1, h2⟩
    · rw [run_convert_bytes_string w s d e _ 0 c hs he hd, run_bytesToString w ad 0 c [] (by simp [loadCells, loadCellsFrom])]
      rfl
    · cases hA
      rw [run_convert_bytes_arg w s e hs he b off n c (l.map fun c => (c.toNat : Int)) (by simpa using h1) (fun i hi => by
        have hl : i < l.length := by omega
        rw [h2 i l[i] (List.getElem?_eq_getElem hl)]
        simp [List.getD, List.getElem?_eq_getElem hl]) d hd, hstr]

theorem snd_b2s (hI : Inv g H w) {s d e : TypeId} (hs : P.underlying s = some (.slice e)) (he : P.underlying e = some (.int .u8)) (hd : P.underlying d = some .string) {x : X} {u : Value} (hu : RV g H (x.ev tm) u) {r : PV} {H' : Hp}
    (h : evalOp call tm H (.b2s x) = some (r, H')) : Runs P g H w (do pure (Next.value (← convert s d u))) r H' := by
  simp only [evalOp] at h
  generalize x.ev tm = p at h hu
  have fin : ∀ {A : Option Addr} {n c : Nat} {l : List UInt8}, u = .slice A n c → (n = 0 ∧ l = [] ∨ ∃ b off, A = some ⟨b, off, none⟩ ∧ l.length = n ∧ ∀ (i : Nat) c, l[i]? = some c → w.cell? ⟨b, off + i, none⟩ = some (.int .u8 c.toNat)) →
      r = .str l → H' = H → Runs P g H w (do pure (Next.value (← convert s d u))) r H' := fun {A n c l} hu0 hc hr hH => by
    subst hr; subst hH; subst hu0
    exact Runs.same hI (run_v_ok (run_b2s hs he hd hc)) (by simp only [RV])
  split at h
  · rename_i t sz n cs
    obtain ⟨A, cap, hu', hc, hl, _, hx⟩ := sl_RC hu
    split at h
    · rename_i h0
      cases h
      exact fin hu' (.inl ⟨h0, rfl⟩) rfl rfl
    · rename_i h0
      split at h
      · rename_i hsz
        subst hsz
        split at h
        · rename_i l hb
          cases h
          obtain ⟨b, off, vs, hA, h1, h2⟩ := hx (by omega)
          have hvs := bytes8_ok hb h2
          refine fin hu' (.inr ⟨b, off, hA, by have := bytes8_len hb; omega, fun i c hi => ?_⟩) rfl rfl
          exact hI.σw _ _ _ (h1 i _ (by rw [hvs]; simp [hi]))
        · cases h
      · cases h
  · rename_i id off n
    split at h
    · rename_i cs hcs
      split at h
      · rename_i hn
        split at h
        · rename_i l hb
          cases h
          simp only [RV] at hu
          obtain ⟨hid, b, e', top, cap, hm, hu', _⟩ := hu
          obtain ⟨_, us, h1, h2⟩ := hI.obj id cs b e' top hcs hm
          have hb0 := (h1.drop off).take n
          have key : (us.drop off).take n = l.map fun c => Value.int .u8 c.toNat := by
            have : ∀ {cs : List PV} {l : List UInt8} {vs : List Value}, bytes8 cs = some l → RVs g H cs vs → vs = l.map fun c => .int .u8 c.toNat := fun {cs} => by
              induction cs with
              | nil => intro l vs hb hr; simp only [bytes8, Option.some.injEq] at hb; subst hb; simp only [RVs] at hr; subst hr; rfl
              | cons p ps ih =>
                intro l vs hb hr
                simp only [RVs] at hr
                obtain ⟨v, r, rfl, h1, h2⟩ := hr
                cases p <;> first | (simp only [bytes8, reduceCtorEq] at hb; done) | skip
                rename_i k z
                cases k <;> first | (simp only [bytes8, reduceCtorEq] at hb; done) | skip
                simp only [bytes8] at hb
                split at hb
                · rename_i l' hl
                  split at hb
                  · rename_i hz
                    cases hb
                    simp only [RV] at h1
                    subst h1
                    rw [ih hl h2]
                    simp only [List.map_cons, List.cons.injEq, Value.int.injEq, true_and, and_true]
                    rw [UInt8.toNat_ofNat']
                    omega
                  · cases hb
                · cases hb
            exact this hb hb0
          refine fin hu' (.inr ⟨b, e' + off, rfl, by have := bytes8_len hb; simp at this; omega, fun i c hi => ?_⟩) rfl rfl
          have h3 := get_take_some (show ((us.drop off).take n)[i]? = some (.int .u8 c.toNat) by rw [key]; simp [hi])
          rw [List.getElem?_drop] at h3
          rw [Nat.add_assoc]
          exact h2 _ _ h3
        · cases h
      · cases h
    · cases h
  · cases h
end
end Go.Proofs.YtnljpfjoboafoaaDoor.Ev
