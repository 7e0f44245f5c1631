/- The given statement SenderStays holds, for every input: no condition. -/
import Derived.Test.YtlbajfhioebphaaEvRow
import Derived.Test.YtlbajfhioebphaaPureSenderStays
namespace Go.Proofs.Ytlbajfhioebphaa.senderStays
set_option linter.all false
open Go Go.ChangeShapes Go.WideShapes Go.ChangeAt Go.RowKit Go.Proofs.Ytlbajfhioebphaa.Ev
open Go.ChangeMaps (open_string shut_string)
theorem own : ownKnob Try.prog.godebug = none := by kernel_rfl
theorem laidOut : laidOutB Try.prog = true := by kernel_rfl
set_option maxRecDepth 100000 in
theorem lifted (os : Os) (started : os.Started) (H : Type) (enc : TypeId × Value → H) :
    ReturnsInHanded {} Try.checked os 5 .any (Rows.senderStaysSpec.pre6 enc Try.prog Try.f5 Rows.senderStaysRow.domain false) (Rows.senderStaysSpec.post enc Try.prog Try.f5 false true false false) := by
  refine returnsInHanded_of_change_sized (C := Try.checked) own started (by kernel_rfl) Try.func5
    (ChangeSpec.witness6 (enc := enc) (C := Try.checked) false ⟨#[], #[.agg #[.int .i64 0, .slice none 0 0, .bool false, .int .i64 0, .int .i64 0, .int .i64 0, .bool false], .slice none 0 0], []⟩ 8 (by kernel_rfl) (by kernel_rfl) (by kernel_rfl) (by kernel_rfl)) ?_
  intro W base args ds gs before hval0 hW hcnd hsz0 _
  have hval : ∀ (j : Nat) t v, Try.f5.params[j]? = some t → args[j]? = some v → Value.okWide Try.prog W .any base t v := hval0
  have hW' := hW
  obtain ⟨p, q, hA0, hV, rfl, hfz, hnd⟩ := hW
  have hA : DataW.TrodAll enc Try.prog W 0 (fun _ => true) true Try.f5.params.toList args.toList ds p := hA0
  rw [Try.params5] at hA hval
  obtain ⟨v0, vs0, d0, ds0, p0, q0, hargs, rfl, rfl, h0, r0⟩ := trodAll_cons hA
  obtain ⟨v1, vs1, d1, ds1, p1, q1, rfl, rfl, rfl, h1, r1⟩ := trodAll_cons r0
  obtain ⟨rfl, rfl, rfl⟩ := trodAll_nil r1
  obtain rfl : args = #[v0, v1] := by cases args; simp_all
  obtain ⟨rfl, rfl⟩ := trodVars_none hV
  have L0 : Light Try.prog 24 d0 := light_of hsz0 (j := 0) (by kernel_rfl) rfl
  have L1 : Light Try.prog 27 d1 := light_of hsz0 (j := 1) (by kernel_rfl) rfl
  have k0 := h0
  have lt0 : ∀ x ∈ p0, x.block < W.heap.size := by obtain ⟨m, hm⟩ := k0; exact DataW.trod_lt m _ _ _ hm
  obtain ⟨n0, g0⟩ := h0
  obtain ⟨cs0, rfl, _⟩ := okWide_struct Try.underlying24 (hval 0 24 v0 rfl rfl)
  obtain ⟨a0, K0, _, q0⟩ := (opens_struct (sz := 7) Try.underlying24 (by kernel_rfl) (opens_more (off' := 1) (sz := 1) (sz' := 6) rfl (by kernel_rfl) rfl (opens_int Try.underlying3) (opens_more (off' := 2) (sz := 1) (sz' := 5) rfl (by kernel_rfl) rfl (opens_slice1 (e := 5) Try.underlying22 (by kernel_rfl) (of_decide_eq_true (by kernel_rfl)) (opens_byte Try.underlying5)) (opens_more (off' := 3) (sz := 1) (sz' := 4) rfl (by kernel_rfl) rfl (opens_bool Try.underlying4) (opens_more (off' := 4) (sz := 1) (sz' := 3) rfl (by kernel_rfl) rfl (opens_int Try.underlying3) (opens_more (off' := 5) (sz := 1) (sz' := 2) rfl (by kernel_rfl) rfl (opens_int Try.underlying3) (opens_more (off' := 6) (sz := 1) (sz' := 1) rfl (by kernel_rfl) rfl (opens_int Try.underlying3) (opens_last (sz := 1) rfl (by kernel_rfl) (opens_bool Try.underlying4))))))))) H enc W n0 _ _ g0 L0
  have k1 := h1
  have lt1 : ∀ x ∈ p1, x.block < W.heap.size := by obtain ⟨m, hm⟩ := k1; exact DataW.trod_lt m _ _ _ hm
  obtain ⟨n1, g1⟩ := h1
  obtain ⟨aa1, ll1, cc1, rfl⟩ := okWide_slice Try.underlying27 (hval 1 27 v1 rfl rfl)
  obtain ⟨a1, K1, _, q1⟩ := (opens_slice (e := 32) (sz := 5) Try.underlying27 (by kernel_rfl) (fun _ => rfl) (by decide) (of_decide_eq_true (by kernel_rfl)) (opens_struct (sz := 5) Try.underlying32 (by kernel_rfl) (opens_more (off' := 1) (sz := 1) (sz' := 4) rfl (by kernel_rfl) rfl (opens_int Try.underlying3) (opens_more (off' := 2) (sz := 1) (sz' := 3) rfl (by kernel_rfl) rfl (opens_int Try.underlying3) (opens_more (off' := 3) (sz := 1) (sz' := 2) rfl (by kernel_rfl) rfl (opens_int Try.underlying3) (opens_more (off' := 4) (sz := 1) (sz' := 1) rfl (by kernel_rfl) rfl (opens_int Try.underlying3) (opens_last (sz := 1) rfl (by kernel_rfl) (opens_slice1 (e := 5) Try.underlying22 (by kernel_rfl) (of_decide_eq_true (by kernel_rfl)) (opens_byte Try.underlying5))))))))) H enc W n1 _ _ g1 L1
  have hz : ∀ b, glob = some b → ∃ m, W.cell? ⟨b, 0, none⟩ = some (.int .i64 m) := fun b hb => nomatch hb
  refine (law_ev Tab.mx Tab.lt_ok Tab.ov_ok (Tab.lawSenderStays a0 q0 a1 q1) hz (rvs_cons (rv_agg K0) (rvs_cons (rv_one rfl K1) rvs_nil))).mono fun e W' ⟨he, bel⟩ => ?_
  subst he
  exact ⟨_, rfl, _, _, _, [], _, [], hW', trodAll_mk1 (shut_bool Try.underlying4 _), (trodAll_cons_mk (Below.trod laidOut (by kernel_rfl) (of_decide_eq_true (by kernel_rfl)) k0 bel lt0) (trodAll_cons_mk (Below.trod laidOut (by kernel_rfl) (of_decide_eq_true (by kernel_rfl)) k1 bel lt1) trodAll_mk0)), rfl, bel.frame _, fun h => by cases h⟩
theorem over : Rows.senderStaysRow.holds Try.pinned (OpenSpec.ofChange Rows.senderStaysSpec) :=
  OpenClaim.holds_of_wide 5 Try.f5 rfl rfl rfl rfl rfl rfl rfl ⟨rfl, rfl, rfl, rfl, rfl⟩ rfl rfl rfl rfl rfl (by kernel_rfl) Try.func5 (by kernel_rfl)
    (of_decide_eq_true (by kernel_rfl)) (by unfold Func.isWrapper; first | (rw [if_pos (by decide +kernel)]; kernel_rfl) | (rw [if_neg (by decide +kernel)]; exact ⟨rfl, rfl⟩))
    (fun os started H enc _ => lifted os started H enc)
theorem proved : Rows.SenderStaysSaid := over
#print axioms proved
end Go.Proofs.Ytlbajfhioebphaa.senderStays
namespace Go.Proofs.Ytlbajfhioebphaa
theorem senderStays_holds : Rows.SenderStaysSaid := senderStays.proved
end Go.Proofs.Ytlbajfhioebphaa
