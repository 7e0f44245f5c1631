/- Library functions told otherwise: a number's digits appended. -/
import Derived.Test.YtmajbgmjlggcbaaDoorEvL
import Derived.Shelf.Strconv.AppendUint10
import Derived.Lib.Atoi
namespace Go.Proofs
open Go Go.Shelf Go.RowKit Go.Sort Go.Lib
section
variable {P : Program} {w : World}
theorem wp_append_run {o : Oper} {a : Act} {K : Act → World → Prop} {Q : Exit → Act → World → Prop} (s x : Operand) (t : TypeId)
    (ho : o.op = .call { callee := .builtin .append, args := #[s, x], argTypes := #[t, t] }) {v u : Value} (hs : a.eval s = v) (hx : a.eval x = u)
    (h : ∃ v' w', (Builtin.append_ #[t, t] o.type #[v, u]).run P w = .ok v' w' ∧ K (a.put o.dst v') w') : o.wp P a w K Q := by
  obtain ⟨v', w', hr, hk⟩ := h
  unfold Oper.wp execOp
  simp only [ho, resolve, invoke, builtin, Sem.run_bind, Sem.run_pure, Result.andThen_ok, List.map_toArray, List.map_cons, List.map_nil, hs, hx, hr]
  exact hk
theorem wpList_append_run {ops : Array Oper} {rest : List Oper} {o : Oper} {a : Act} {Q : Exit → Act → World → Prop} (hgd : o.guard = none) (s x : Operand) (t : TypeId)
    (ho : o.op = .call { callee := .builtin .append, args := #[s, x], argTypes := #[t, t] }) {v u : Value} (hs : a.eval s = v) (hx : a.eval x = u)
    (h : ∃ v' w', (Builtin.append_ #[t, t] o.type #[v, u]).run P w = .ok v' w' ∧ wpList P ops Q rest (a.put o.dst v') w') : wpList P ops Q (o :: rest) a w :=
  wpList_plain hgd fun _ hK => wp_append_run s x t ho hs hx (by obtain ⟨v', w', h1, h2⟩ := h; exact ⟨v', w', h1, hK _ _ h2⟩)
end
variable {P : Program} {ρ : Ren}
set_option maxHeartbeats 12800000 in
set_option maxRecDepth 100000 in
theorem AppendUint_run (L : LaysM.n288 P ρ) (u : Nat) (hu : 100 ≤ u) (hu64 : u < 18446744073709551616) (sv : Value) (w : World)
    (htab : Lib.TabIs P w "internal/strconv.uint64pow10" .u64 Lib.pow10Tab) (Q : Ending → World → Prop)
    (h : ∀ (W2 : World) (ty : TypeId), Below w.heap.size w W2 → (∀ j u', (Lib.byteCells (Lib.decDigits u))[j]? = some u' → W2.cell? ((⟨w.heap.size, 0, none⟩ : Addr).add j) = some u') →
      ∃ v' w', (Builtin.append_ #[ρ.t 37, ρ.t 37] ty #[sv, .slice (some ⟨w.heap.size, 0, none⟩) (Lib.nDigits u) 24]).run P W2 = .ok v' w' ∧ Q (.returned v') w') :
    Calls P (ρ.f 288) #[sv, .int .u64 u, .int .i64 10] w Q := by
  have mixed := L.mixed
  have t5 := L.t5; have a5 := L.a5; have z5 := L.z5; have v5 := L.v5
  have t37 := L.t37; have u37 := run_underlying L.t37; have a37 := L.a37; have z37 := L.z37; have v37 := L.v37
  have t53 := L.t53; have a53 := L.a53; have z53 := L.z53; have v53 := L.v53
  have t3 := L.t3; have a3 := L.a3; have z3 := L.z3; have v3 := L.v3
  have t4 := L.t4; have a4 := L.a4; have z4 := L.z4; have v4 := L.v4
  have t9 := L.t9; have a9 := L.a9; have z9 := L.z9; have v9 := L.v9
  have t171 := L.t171; have a171 := L.a171; have z171 := L.z171; have v171 := L.v171
  have t0 := L.t0; have a0 := L.a0; have z0 := L.z0; have v0 := L.v0
  have t173 := L.t173; have a173 := L.a173; have z173 := L.z173; have v173 := L.v173
  have e284 : ∀ args w, (callFunc (ρ.f 284) args).run P w = .ok (.enter (ρ.f 284) args) w := enters_of L.f284 (by kernel_rfl) rfl
  have e285 : ∀ args w, (callFunc (ρ.f 285) args).run P w = .ok (.enter (ρ.f 285) args) w := enters_of L.f285 (by kernel_rfl) rfl
  have hu1 : 1 ≤ u := by omega
  have hnd20 : Lib.nDigits u ≤ 20 := by have := Lib.numDigits_eq u hu1 hu64; split at this <;> omega
  have hal : P.arrayLen (ρ.t 171) = 24 := by simp [Program.arrayLen, L.t171]
  have hsl : ∀ W, (Instr.sliceAt (ρ.t 171) (.pointer (some ⟨w.heap.size, 0, none⟩)) none (some (.int .i64 (Lib.nDigits u : Int))) none).run P W = .ok (.slice (some ⟨w.heap.size, 0, none⟩) (Lib.nDigits u) 24) W := fun W => by
    rw [run_sliceAt_array_h W (ρ.t 171) ⟨w.heap.size, 0, none⟩ (by simp [Program.arrayLen, Program.elem, L.t171]) .i64 (Lib.nDigits u : Int) (by omega) (by rw [hal]; omega)]
    go_simp
  have hH0 := Lib.holds_zero0 w (ρ.t 171) (Lib.nDigits u) (by omega)
  have hfmt := Any.internal_strconv_formatBase10 { L with } w.heap.size 0 24 u (Array.replicate (Lib.nDigits u) 0) (w.alloc (.cells Lib.zeros24 (ρ.t 171))) hH0 (by rw [Array.size_replicate]; exact Lib.lt_pow_nDigits u) hu64 (by rw [Array.size_replicate]; omega)
  rw [Array.size_replicate] at hfmt
  have HH0 := Lib.hid hH0
  have iu : (100 : Int) ≤ (u : Int) := by omega
  have hh := Lib.hid h
  clear hH0 hal h
  go_enter L.f288, Body.n288_ntmps ρ
  go_wp2_with (first
    | (go_at_fn (ρ.f 284); refine (Any.internal_strconv_numDigits { L with } u hu1 hu64 _ (Lib.tabIs_alloc htab _)).mono ?_; rintro e w' ⟨rfl, rfl⟩))
  go_at_fn (ρ.f 285)
  refine hfmt.mono ?_
  rintro e w' ⟨rfl, k, v', dk, rfl, hF⟩
  have hcells : ∀ j u', (Lib.byteCells (Lib.decDigits u))[j]? = some u' → ((putRow (fun (b : UInt8) => Value.int .u8 (b.toNat : Int)) (w.alloc (.cells Lib.zeros24 (ρ.t 171))) w.heap.size 0 dk).drewN k).cell? ((⟨w.heap.size, 0, none⟩ : Addr).add j) = some u' := by
    intro j u' hj
    have hjl : j < (Lib.decDigits u).length := by
      have h5 := (List.getElem?_eq_some_iff.1 hj).1
      rwa [Lib.byteCells_length] at h5
    have e5 : (Lib.byteCells (Lib.decDigits u))[j]? = some (Value.int .u8 ((Lib.decDigits u)[j].toNat : Int)) := by simp [Lib.byteCells, hjl]
    rw [e5] at hj
    cases hj
    rw [Lib.row_is_numeral hF j hjl, Lib.add_plain, World.cell?_drewN]
    exact cell?_putRow (fun (b : UInt8) => Value.int .u8 (b.toNat : Int)) _ w.heap.size 0 _ dk HH0.out (by rw [hF.size, Array.size_replicate]) j (by rw [hF.size]; rw [Lib.decDigits_length] at hjl; exact hjl)
  obtain ⟨os, eo⟩ := Lib.fin_at w (.cells Lib.zeros24 (ρ.t 171)) dk k 0
  have hnx2 : Below w.heap.size w ((putRow (fun (b : UInt8) => Value.int .u8 (b.toNat : Int)) (w.alloc (.cells Lib.zeros24 (ρ.t 171))) w.heap.size 0 dk).drewN k) := by rw [eo]; exact Lib.below_grow w.heap.size w (Nat.le_refl _) k os
  generalize (putRow (fun (b : UInt8) => Value.int .u8 (b.toNat : Int)) (w.alloc (.cells Lib.zeros24 (ρ.t 171))) w.heap.size 0 dk).drewN k = W2 at hcells hnx2 ⊢
  clear eo HH0 hfmt
  obtain ⟨v', w', hr, hQ⟩ := hh.out W2 (ρ.t 37) hnx2 hcells
  go_wp2_with (at_builtin; refine wpList_append_run rfl _ _ (ρ.t 37) rfl rfl rfl ⟨v', w', hr, ?_⟩)
  exact hQ
end Go.Proofs

namespace Go.Proofs.YtmajbgmjlggcbaaDoor.Ev
set_option linter.all false
open Go Go.RowKit
/-- internal/strconv.AppendUint to the base 10, of three digits and more: the digits behind a slice that may grow. -/
def ovAppU : List PV → Hp → Option (PV × Hp)
  | [p, .int .u64 n, .int .i64 10], H => if 100 ≤ n ∧ n < 18446744073709551616 then
      evalOp (fun _ _ _ => none) [p, .sl .no 1 (Lib.decDigits n.toNat).length ((Lib.decDigits n.toNat).map b8)] (H ++ [.tok]) (.app 1 1 (.t 0) (.t 1)) else none
  | _, _ => none
theorem cell_cells {w : World} {b o : Nat} {v : Value} (h : w.cell? ⟨b, o, none⟩ = some v) : ∃ carr el fr, w.heap[b]? = some (.cells carr el fr) ∧ carr[o]? = some v := by
  unfold World.cell? at h
  cases hb : w.heap[b]? with
  | none => simp [hb] at h
  | some ob =>
    cases ob with
    | cells carr el fr => simp only [hb] at h; exact ⟨carr, el, fr, rfl, by simpa using h⟩
    | _ => simp [hb] at h
/-- strconv.Atoi of a short text: its number, or 0 and an error. -/
def ovAtoi : List PV → Hp → Option (PV × Hp)
  | [.str l], H => if l.length ≤ 18 then (match Lib.atoi l with | some n => some (.tup [.int .i64 n, .ifc true], H) | none => some (.tup [.int .i64 0, .ifc false], H)) else none
  | _, _ => none
theorem ok_Atoi {P : Program} {f : Nat} {b : Nat} (hb : b ∈ constB) (he : Enters P f)
    (hc : ∀ (l : List UInt8) (w : World), l.length ≤ 18 → (∃ cs el fr, w.heap[b]? = some (.cells cs el fr) ∧ blockOk b cs) →
      Calls P f #[.string ⟨l.toArray⟩] w fun e w' => Below w.heap.size w w' ∧ ((∃ n, Lib.atoi l = some n ∧ e = .returned (.tuple #[.int .i64 n, .nilIface])) ∨ (Lib.atoi l = none ∧ ∃ ty x, e = .returned (.tuple #[.int .i64 0, .iface ty x])))) :
    CallOk P fun f' args H => if f' = f then ovAtoi args H else none := fun f' args H r H' h => by
  dsimp only at h
  split at h
  · rename_i hf
    subst hf
    unfold ovAtoi at h
    split at h
    · rename_i l
      split at h
      · rename_i hl
        refine ⟨?_, ?_⟩
        · exact he
        intro g w vs hI hr
        obtain ⟨v, rfl, h1⟩ := one_of hr
        simp only [RV] at h1
        subst h1
        obtain ⟨cs, el, fr, h2, h3, _⟩ := hI.c b hb
        refine (hc l w hl ⟨cs, el, fr, h2, h3⟩).mono ?_
        rintro e w' ⟨hB, h4⟩
        rcases h4 with ⟨n, hn, rfl⟩ | ⟨hn, ty, x, rfl⟩
        · rw [hn] at h
          cases h
          refine ⟨_, g, rfl, inv_below hI hB, ?_, ext_below hB⟩
          simp only [RV]
          exact ⟨[.int .i64 n, .nilIface], rfl, by simp only [RVs, RV]; refine ⟨_, _, rfl, ?_, _, _, rfl, ?_, rfl⟩ <;> simp⟩
        · rw [hn] at h
          cases h
          refine ⟨_, g, rfl, inv_below hI hB, ?_, ext_below hB⟩
          simp only [RV]
          exact ⟨[.int .i64 0, .iface ty x], rfl, by simp only [RVs, RV]; refine ⟨_, _, rfl, ?_, _, _, rfl, ?_, rfl⟩ <;> simp⟩
      · cases h
    · cases h
  · cases h
theorem ok_AppU {P : Program} {f : Nat} {b : Nat} (hb : b ∈ constB) (he : Enters P f) {T e : TypeId} {i : TypeInfo} (hT : P.underlying T = some (.slice e)) (hi : P.info? e = some i) (hz : i.zero = some (.int .u8 0)) (hs1 : i.size = 1) (hb1 : i.bytes = 1)
    (hc : ∀ (u : Nat) (sv : Value) (w : World) (Q : Ending → World → Prop), 100 ≤ u → u < 18446744073709551616 → (∃ cs el fr, w.heap[b]? = some (.cells cs el fr) ∧ blockOk b cs) →
      (∀ (W2 : World) (ty : TypeId), Below w.heap.size w W2 → (∀ j u', (Lib.byteCells (Lib.decDigits u))[j]? = some u' → W2.cell? ((⟨w.heap.size, 0, none⟩ : Addr).add j) = some u') →
        ∃ v' w', (Builtin.append_ #[T, T] ty #[sv, .slice (some ⟨w.heap.size, 0, none⟩) (Lib.nDigits u) 24]).run P W2 = .ok v' w' ∧ Q (.returned v') w') → Calls P f #[sv, .int .u64 u, .int .i64 10] w Q) :
    CallOk P fun f' args H => if f' = f then ovAppU args H else none := fun f' args H r H' h => by
  dsimp only at h
  split at h
  · rename_i hf
    subst hf
    unfold ovAppU at h
    split at h
    · rename_i p n
      split at h
      · rename_i hn
        refine ⟨he, fun g w vs hI hr => ?_⟩
        simp only [RVs, RV] at hr
        obtain ⟨v0, _, rfl, hv0, _, _, rfl, rfl, _, _, rfl, rfl, rfl⟩ := hr
        obtain ⟨u, rfl⟩ : ∃ u : Nat, n = u := ⟨n.toNat, by omega⟩
        rw [Int.toNat_natCast] at h
        obtain ⟨cs, el, fr, h2, h3, _⟩ := hI.c b hb
        have hd20 : (Lib.decDigits u).length ≤ 24 ∧ 0 < (Lib.decDigits u).length := by
          rw [Lib.decDigits_length]
          have := Lib.numDigits_eq u (by omega) (by omega)
          constructor
          · split at this <;> omega
          · rw [Lib.nDigits_big (show ¬ u < 10 by omega)]; omega
        refine hc u v0 w _ (by omega) (by omega) ⟨cs, el, fr, h2, h3⟩ fun W2 ty hB hcells => ?_
        have hcell : ∀ (j : Nat) u', (Lib.byteCells (Lib.decDigits u))[j]? = some u' → W2.cell? ⟨w.heap.size, j, none⟩ = some u' := fun j u' hj => by
          have := hcells j u' hj
          rwa [Lib.add_plain, Nat.zero_add] at this
        have hbl : (Lib.byteCells (Lib.decDigits u)).length = (Lib.decDigits u).length := Lib.byteCells_length _
        obtain ⟨carr, el', fr', hW, _⟩ := cell_cells (hcell 0 _ (List.getElem?_eq_getElem (by omega)))
        have hvs : ∀ (i : Nat) v, (Lib.byteCells (Lib.decDigits u))[i]? = some v → carr[i]? = some v := fun i v hv => by
          obtain ⟨carr', _, _, hW', h5⟩ := cell_cells (hcell i v hv)
          rw [hW] at hW'
          cases hW'
          exact h5
        have hsz : (Lib.byteCells (Lib.decDigits u)).length ≤ carr.size := by
          have := hvs ((Lib.byteCells (Lib.decDigits u)).length - 1) _ (List.getElem?_eq_getElem (by omega))
          have := (Array.getElem?_eq_some_iff.1 this).1
          omega
        obtain ⟨g1, hI1, hE1, hσ, _⟩ := growB hI hB (Nat.le_refl _) hW (Lib.byteCells (Lib.decDigits u)) hvs (fun v hv => by
          simp only [Lib.byteCells, List.mem_map] at hv
          obtain ⟨b, _, rfl⟩ := hv
          rfl) (Lib.byteCells (Lib.decDigits u)).length (Nat.le_refl _) hsz (fun o h1 h2 => by omega)
        have hsrc : RV g1 (H ++ [.tok]) (.sl .no 1 (Lib.decDigits u).length ((Lib.decDigits u).map b8)) (.slice (some ⟨w.heap.size, 0, none⟩) (Lib.nDigits u) 24) := by
          rw [← Lib.decDigits_length]
          exact rv_sl_new hσ (RCs_b8 (Lib.decDigits u)) (by simp) 24 hd20.1
        have hrun := snd_app (P := P) (call := fun _ _ _ => none) (tm := [p, .sl .no 1 (Lib.decDigits u).length ((Lib.decDigits u).map b8)]) (ty := ty) (ats := #[T, T]) (T := T) (U := T) (x := .t 0) (y := .t 1) hI1 hT rfl rfl hT rfl hi hz (by rw [hs1]; rfl) (by rw [hs1]; decide) (by rw [hb1]; decide) (hv0.ext hE1) hsrc (by rw [hs1, hb1]; exact h)
        obtain ⟨nx, v, w', g', hr1, hnx, hI', hv', hE'⟩ := hrun
        rw [Sem.run_bind] at hr1
        cases hx : (Builtin.append_ #[T, T] ty #[v0, .slice (some ⟨w.heap.size, 0, none⟩) (Lib.nDigits u) 24]).run P W2 with
        | ok v1 w1 =>
          rw [hx] at hr1
          simp only [Result.andThen_ok, Sem.run_pure, Result.ok.injEq] at hr1
          obtain ⟨rfl, rfl⟩ := hr1
          rcases hnx with h6 | ⟨h6, _⟩
          · cases h6
            exact ⟨v, w1, rfl, v, g', rfl, hI', hv', hE1.trans hE'⟩
          · cases h6
        | _ => rw [hx] at hr1; simp [Result.andThen] at hr1
      · cases h
    · cases h
  · cases h
end Go.Proofs.YtmajbgmjlggcbaaDoor.Ev
