/- That the evaluator tells what the operations do: rows, loads and stores, numbers. -/
import Derived.Test.YtnljpfjoboafoaaDoorEv6
namespace Go.Proofs.YtnljpfjoboafoaaDoor.Ev
set_option linter.all false
open Go Go.RowKit
section
variable {P : Program} {g : Gh} {H : Hp} {w : World} {tm : List PV} {a : Act} {call : Nat → List PV → Hp → Option (PV × Hp)}

theorem rv_sl_new {g : Gh} {b sz n : Nat} {cs : List PV} {vs : List Value} (hh : g.σ.holds b 0 vs) (hr : RCs g.σ cs vs) (hl : cs.length = n * sz) (cap : Nat) (hc : n ≤ cap) : RC g.σ (.sl .no sz n cs) (.slice (some ⟨b, 0, none⟩) n cap) := by
  simp only [RC]
  exact ⟨fun k h => (by cases h), _, cap, rfl, hc, fun h => (by cases h), hl, fun _ => ⟨b, 0, vs, rfl, hh, hr⟩⟩

theorem snd_lit (hI : Inv g H w) (hx : ∀ x, RV g H ((cx x).ev tm) (a.eval x)) {T e : TypeId} {i : TypeInfo} {z : Value} {n : Nat} {ps : Array (Nat × Operand)} {cp : List (Nat × Nat × X)} {cs ds : List PV} {keep : Bool}
    (ht : P.underlying T = some (.slice e)) (hi : P.info? e = some i) (hz : i.zero = some z) (hn : n * i.size ≤ 2 ^ 24) (hpos : 0 < i.size)
    (hm : (ps.toList.mapM fun (j, x) => (some (j * i.size, i.size)).map fun (o, s) => (o, s, cx x)) = some cp)
    (hf : fillP ((List.range (n * i.size)).map fun j => cvc (z.cells[j % z.cells.size]!)) (cp.map fun (o, s, x) => (o, s, x.ev tm)) = some cs) (hd : PV.cleans cs = some ds) (hl : ds.length = n * i.size) (hall : ds.all PV.one = true) :
    Runs P g H w (do pure (Next.value (← Instr.buildSlice T n (ps.map fun (i, x) => (i, a.eval x))))) (if keep then .sl (.tok H.length) i.size n ds else .sl .no i.size n ds) (if keep then H ++ [.tok] else H) := by
  have hz0 : RVs g H ((List.range (n * i.size)).map fun j => cvc (z.cells[j % z.cells.size]!)) ((Array.range (n * i.size)).map fun j => z.cells[j % z.cells.size]!).toList := by
    have h1 : ((Array.range (n * i.size)).map fun j => z.cells[j % z.cells.size]!).toList = (List.range (n * i.size)).map fun j => z.cells[j % z.cells.size]! := by simp [Array.toList_range]
    have h2 : ((List.range (n * i.size)).map fun j => cvc (z.cells[j % z.cells.size]!)) = ((List.range (n * i.size)).map fun j => z.cells[j % z.cells.size]!).map cvc := by simp
    rw [h1, h2]
    exact RVs.of_RCs (RCs_map _)
  obtain ⟨cv, h1, h2⟩ := fill_ok (g := g) (H := H) (fun j => some (j * i.size, i.size)) a.eval (X.ev tm) hx ps.toList cp _ cs _ hm hz0 hf
  have hrc := PV.cleans_RCs hd h2
  have hcv : cv.size = n * i.size := by have := hrc.length; simp at this; omega
  have hrun : (Instr.buildSlice T n (ps.map fun (i, x) => (i, a.eval x))).run P w = .ok (.slice (some ⟨w.heap.size, 0, none⟩) n n) { w with heap := w.heap.push (.cells cv e) } := by
    have hn' : ¬ (n * i.size > 2 ^ 24) := by omega
    have hs : (sizeOf e).run P w = .ok i.size w := by simp [sizeOf, typeInfo, hi]
    simp only [Instr.buildSlice, Sem.run_bind, run_underlying ht, Result.andThen_ok, hs]
    by_cases h0 : n * i.size = 0
    · simp only [h0, Array.range_zero'] at h1 ⊢
      simp at h1
      simp [h1, newRow]
    · simp [hn', h0, run_zero (w := w) hi hz, h1, newRow]
  cases keep with
  | false =>
    obtain ⟨g', h3, h4, h5⟩ := grow_none (w' := { w with heap := w.heap.push (.cells cv e) }) hI rfl rfl rfl rfl cv.toList (fun i v h => by simpa using h) (ones_okC hall hrc)
    exact Runs.of (run_v_ok hrun) h3 (by simp only [Bool.false_eq_true, if_false, RV]; exact rv_sl_new h5 (hrc.mono h4.σ) hl n (Nat.le_refl _)) h4
  | true =>
    obtain ⟨g', h3, h4, h5, h6⟩ := grow_tok (w' := { w with heap := w.heap.push (.cells cv e) }) hI rfl rfl rfl rfl cv.toList (fun i v h => by simpa using h) (ones_okC hall hrc) cv.size (by simp) (Nat.le_refl _) (.inl rfl)
    refine Runs.of (run_v_ok hrun) h3 ?_ h4
    simp only [if_true, RV]
    refine ⟨by simp, rv_sl_new h5 (hrc.mono h4.σ) hl n (Nat.le_refl _), fun _ => ?_⟩
    unfold OwnAt
    rw [h6]
    exact ⟨hpos, 0, n, n, rfl, by simp [hcv], by simp [hcv], .inr (Nat.le_trans (Nat.le_mul_of_pos_right n hpos) (Nat.le_trans hn (by decide)))⟩

theorem snd_litr (hI : Inv g H w) (hx : ∀ x, RV g H ((cx x).ev tm) (a.eval x)) {T e : TypeId} {i : TypeInfo} {z : Value} {n : Nat} {ps : Array (Nat × Operand)} {cp : List (Nat × Nat × X)} {cs : List PV}
    (ht : P.underlying T = some (.slice e)) (hi : P.info? e = some i) (hz : i.zero = some z) (hn : n * i.size ≤ 2 ^ 24) (hpos : 0 < i.size)
    (hm : (ps.toList.mapM fun (j, x) => (some (j * i.size, i.size)).map fun (o, s) => (o, s, cx x)) = some cp)
    (hf : fillP ((List.range (n * i.size)).map fun j => cvc (z.cells[j % z.cells.size]!)) (cp.map fun (o, s, x) => (o, s, x.ev tm)) = some cs) (hl : cs.length = n * i.size) :
    Runs P g H w (do pure (Next.value (← Instr.buildSlice T n (ps.map fun (i, x) => (i, a.eval x))))) (.row H.length 0 i.size n) (H ++ [.cells cs]) := by
  have hz0 : RVs g H ((List.range (n * i.size)).map fun j => cvc (z.cells[j % z.cells.size]!)) ((Array.range (n * i.size)).map fun j => z.cells[j % z.cells.size]!).toList := by
    have h1 : ((Array.range (n * i.size)).map fun j => z.cells[j % z.cells.size]!).toList = (List.range (n * i.size)).map fun j => z.cells[j % z.cells.size]! := by simp [Array.toList_range]
    have h2 : ((List.range (n * i.size)).map fun j => cvc (z.cells[j % z.cells.size]!)) = ((List.range (n * i.size)).map fun j => z.cells[j % z.cells.size]!).map cvc := by simp
    rw [h1, h2]
    exact RVs.of_RCs (RCs_map _)
  obtain ⟨cv, h1, h2⟩ := fill_ok (g := g) (H := H) (fun j => some (j * i.size, i.size)) a.eval (X.ev tm) hx ps.toList cp _ cs _ hm hz0 hf
  have hcv : cv.size = n * i.size := by have := h2.length; simp at this; omega
  have hrun : (Instr.buildSlice T n (ps.map fun (i, x) => (i, a.eval x))).run P w = .ok (.slice (some ⟨w.heap.size, 0, none⟩) n n) { w with heap := w.heap.push (.cells cv e) } := by
    have hn' : ¬ (n * i.size > 2 ^ 24) := by omega
    have hs : (sizeOf e).run P w = .ok i.size w := by simp [sizeOf, typeInfo, hi]
    simp only [Instr.buildSlice, Sem.run_bind, run_underlying ht, Result.andThen_ok, hs]
    by_cases h0 : n * i.size = 0
    · simp only [h0, Array.range_zero'] at h1 ⊢
      simp at h1
      simp [h1, newRow]
    · simp [hn', h0, run_zero (w := w) hi hz, h1, newRow]
  obtain ⟨g', h3, h4, h5⟩ := grow_obj (w' := { w with heap := w.heap.push (.cells cv e) }) hI rfl rfl rfl rfl h2 (fun i v h => by simpa using h) (by simp) (.inl rfl)
  refine Runs.of (run_v_ok hrun) h3 ?_ h4
  simp only [RV]
  exact ⟨by simp, _, _, _, _, h5, rfl, Nat.le_refl _, by rw [hcv]; omega, .inr (Nat.le_trans (Nat.le_mul_of_pos_right n hpos) (Nat.le_trans hn (by decide)))⟩

theorem get_take_some {α : Type} {l : List α} {n j : Nat} {v : α} (h : (l.take n)[j]? = some v) : l[j]? = some v := by
  rw [List.getElem?_take] at h
  split at h
  · exact h
  · cases h
/-- A load of n cells. -/
theorem run_loadVar {T : TypeId} {d : TypeDesc} {i : TypeInfo} (ht : P.underlying T = some d) (hi : P.info? T = some i) {b o : Nat} {p : PV} {ps : List PV} {vs : List Value} (hr : RVs g H ps vs)
    (hc : ∀ (j : Nat) v, vs[j]? = some v → w.cell? ⟨b, o + j, none⟩ = some v) (hof : PV.of? (isAggD d) (if isAggD d then i.size else 1) ps = some p) :
    ∃ v, (loadVar T ⟨b, o, none⟩).run P w = .ok v w ∧ RV g H p v := by
  have hadd : ∀ j, (⟨b, o, none⟩ : Addr).add j = ⟨b, o + j, none⟩ := fun j => Addr.add_lit b o j
  have hag : (isAgg T).run P w = .ok (isAggD d) w := by
    simp only [isAgg, Sem.run_bind, run_underlying ht, Result.andThen_ok]
    cases d <;> rfl
  have hs : (sizeOf T).run P w = .ok i.size w := by simp [sizeOf, typeInfo, hi]
  have hll := hr.length
  cases hd : isAggD d with
  | true =>
    rw [hd] at hof
    simp only [PV.of?, if_true] at hof
    split at hof
    · rename_i hl
      cases hof
      have := run_loadCells_list (P := P) w ⟨b, o, none⟩ vs (fun j v hv => by rw [hadd]; exact hc j v hv)
      refine ⟨.agg vs.toArray, ?_, by simp only [RV]; exact ⟨vs, rfl, hr⟩⟩
      simp only [loadVar, Sem.run_bind, hag, hd, Result.andThen_ok, if_true, hs]
      rw [← hl, hll, this]
      rfl
    · cases hof
  | false =>
    rw [hd] at hof
    simp only [PV.of?, Bool.false_eq_true, if_false] at hof
    split at hof
    · split at hof
      · rename_i q _
        cases hof
        simp only [RVs] at hr
        obtain ⟨v, r, rfl, h1, h2⟩ := hr
        refine ⟨v, ?_, h1⟩
        have h3 := hc 0 v rfl
        simp only [loadVar, Sem.run_bind, hag, hd, Result.andThen_ok, Bool.false_eq_true, if_false, run_load]
        rw [show w.cell? ⟨b, o, none⟩ = some v from h3]
      · cases hof
    · cases hof

theorem snd_load (hI : Inv g H w) {T : TypeId} {d : TypeDesc} {i : TypeInfo} (ht : P.underlying T = some d) (hi : P.info? T = some i) {x : X} {v : Value} (hv : RV g H (x.ev tm) v) {r : PV} {H' : Hp}
    (h : evalOp call tm H (.load (isAggD d) (if isAggD d then i.size else 1) x) = some (r, H')) : Runs P g H w (do pure (Next.value (← Instr.loadAt T v))) r H' := by
  simp only [evalOp] at h
  generalize x.ev tm = p at h hv
  have fin : ∀ {b o : Nat} {ps : List PV} {vs : List Value}, v = .pointer (some ⟨b, o, none⟩) → RVs g H ps vs → (∀ (j : Nat) u, vs[j]? = some u → w.cell? ⟨b, o + j, none⟩ = some u) →
      PV.of? (isAggD d) (if isAggD d then i.size else 1) (ps.take (if isAggD d then i.size else 1)) = some r → H' = H → Runs P g H w (do pure (Next.value (← Instr.loadAt T v))) r H' := fun {b o ps vs} hv0 hr hc hof hH => by
    subst hv0; subst hH
    obtain ⟨u, h1, h2⟩ := run_loadVar (w := w) ht hi (hr.take (if isAggD d then i.size else 1)) (fun j u hu => hc j u (get_take_some hu)) hof
    exact Runs.same hI (run_v_ok (by simp only [Instr.loadAt, Instr.sureAddr, Sem.run_bind, Sem.run_pure, Result.andThen_ok, h1])) h2
  cases p with
  | ptr id off =>
    simp only at h
    split at h
    · rename_i cs hcs
      split at h
      · rename_i q hq
        cases h
        simp only [RV] at hv
        obtain ⟨hid, b, e, top, hm, rfl⟩ := hv
        obtain ⟨_, us, h1, h2⟩ := hI.obj id cs b e top hcs hm
        exact fin rfl (h1.drop off) (fun j u hu => by rw [List.getElem?_drop] at hu; rw [Nat.add_assoc]; exact h2 _ u hu) hq rfl
      · cases h
    · cases h
  | ep cs off =>
    simp only at h
    split at h
    · rename_i q hq
      cases h
      simp only [RV, RC] at hv
      obtain ⟨b, o, us, rfl, h1, h2⟩ := hv
      exact fin rfl (RVs.of_RCs (h2.drop off)) (fun j u hu => by
        rw [List.getElem?_drop] at hu
        have := hI.σw _ _ _ (h1 _ u hu)
        rwa [Nat.add_assoc]) hq rfl
    · cases h
  | _ => simp at h

theorem snd_store (hI : Inv g H w) {T : TypeId} {i : TypeInfo} (hi : P.info? T = some i) {x y : X} {u v : Value} (hu : RV g H (x.ev tm) u) (hv : RV g H (y.ev tm) v) {r : PV} {H' : Hp}
    (h : evalOp call tm H (.store i.size x y) = some (r, H')) : Runs P g H w (do Instr.storeAt T u v; pure Next.skip) r H' := by
  simp only [evalOp] at h
  generalize x.ev tm = p at h hu
  split at h
  · rename_i id off vc hvc
    split at h
    · rename_i cs hcs
      split at h
      · rename_i hc
        cases h
        simp only [RV] at hu
        obtain ⟨hid, b, e, top, hm, rfl⟩ := hu
        obtain ⟨h1, h2⟩ := cells_ok hvc hv
        have hl := h1.length
        obtain ⟨h3, h4, h5⟩ := put_obj (P := P) (off := off) hI hcs hm h1 (by omega) h2
        have hs : (sizeOf T).run P w = .ok i.size w := by simp [sizeOf, typeInfo, hi]
        have hne : ¬ (v.cells.size ≠ i.size) := by simp at hl; omega
        refine ⟨.skip, undef, _, g, ?_, .inr ⟨rfl, rfl⟩, by rw [hc.1] at h4; exact h4, by simp only [RV], by rw [hc.1] at h5; exact h5⟩
        simp only [Instr.storeAt, Instr.sureAddr, storeVar, Sem.run_bind, Sem.run_pure, Result.andThen_ok, hs]
        simp only [Array.length_toList] at hl
        rw [if_neg (by omega)]
        rw [h3]
        rfl
      · cases h
    · cases h
  · cases h
end
end Go.Proofs.YtnljpfjoboafoaaDoor.Ev
