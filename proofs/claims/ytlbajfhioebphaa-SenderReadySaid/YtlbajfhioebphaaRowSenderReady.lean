/- The given statement SenderReady holds, for every input: no condition. -/
import Derived.Test.YtlbajfhioebphaaEvRow
import Derived.Test.YtlbajfhioebphaaPureSenderReady
namespace Go.Proofs.Ytlbajfhioebphaa.senderReady
set_option linter.all false
open Go Go.ChangeShapes Go.WideShapes Go.ChangeAt Go.RowKit Go.Proofs.Ytlbajfhioebphaa.Ev
open Go.ChangeMaps (open_string shut_string)
theorem own : ownKnob Try.prog.godebug = none := by kernel_rfl
theorem laidOut : laidOutB Try.prog = true := by kernel_rfl
set_option maxRecDepth 100000 in
theorem lifted (os : Os) (started : os.Started) (H : Type) (enc : TypeId × Value → H) :
    ReturnsInHanded {} Try.checked os 9 .any (Rows.senderReadySpec.pre6 enc Try.prog Try.f9 Rows.senderReadyRow.domain false) (Rows.senderReadySpec.post enc Try.prog Try.f9 false true false false) := by
  refine returnsInHanded_of_change_sized (C := Try.checked) own started (by kernel_rfl) Try.func9
    (ChangeSpec.witness6 (enc := enc) (C := Try.checked) false ⟨#[], #[.agg #[.int .i64 0, .slice none 0 0, .bool false, .int .i64 0, .int .i64 0, .int .i64 0, .bool false], .int .i64 0], []⟩ 8 (by kernel_rfl) (by kernel_rfl) (by kernel_rfl) (by kernel_rfl)) ?_
  intro W base args ds gs before hval0 hW hcnd hsz0 _
  have hval : ∀ (j : Nat) t v, Try.f9.params[j]? = some t → args[j]? = some v → Value.okWide Try.prog W .any base t v := hval0
  have hW' := hW
  obtain ⟨p, q, hA0, hV, rfl, hfz, hnd⟩ := hW
  have hA : DataW.TrodAll enc Try.prog W 0 (fun _ => true) true Try.f9.params.toList args.toList ds p := hA0
  rw [Try.params9] at hA hval
  obtain ⟨v0, vs0, d0, ds0, p0, q0, hargs, rfl, rfl, h0, r0⟩ := trodAll_cons hA
  obtain ⟨v1, vs1, d1, ds1, p1, q1, rfl, rfl, rfl, h1, r1⟩ := trodAll_cons r0
  obtain ⟨rfl, rfl, rfl⟩ := trodAll_nil r1
  obtain rfl : args = #[v0, v1] := by cases args; simp_all
  obtain ⟨rfl, rfl⟩ := trodVars_none hV
  have L0 : Light Try.prog 24 d0 := light_of hsz0 (j := 0) (by kernel_rfl) rfl
  have L1 : Light Try.prog 3 d1 := light_of hsz0 (j := 1) (by kernel_rfl) rfl
  have k0 := h0
  have lt0 : ∀ x ∈ p0, x.block < W.heap.size := by obtain ⟨m, hm⟩ := k0; exact DataW.trod_lt m _ _ _ hm
  obtain ⟨n0, g0⟩ := h0
  obtain ⟨cs0, rfl, _⟩ := okWide_struct Try.underlying24 (hval 0 24 v0 rfl rfl)
  obtain ⟨a0, K0, _, q0⟩ := (opens_struct (sz := 7) Try.underlying24 (by kernel_rfl) (opens_more (off' := 1) (sz := 1) (sz' := 6) rfl (by kernel_rfl) rfl (opens_int Try.underlying3) (opens_more (off' := 2) (sz := 1) (sz' := 5) rfl (by kernel_rfl) rfl (opens_slice1 (e := 5) Try.underlying22 (by kernel_rfl) (of_decide_eq_true (by kernel_rfl)) (opens_byte Try.underlying5)) (opens_more (off' := 3) (sz := 1) (sz' := 4) rfl (by kernel_rfl) rfl (opens_bool Try.underlying4) (opens_more (off' := 4) (sz := 1) (sz' := 3) rfl (by kernel_rfl) rfl (opens_int Try.underlying3) (opens_more (off' := 5) (sz := 1) (sz' := 2) rfl (by kernel_rfl) rfl (opens_int Try.underlying3) (opens_more (off' := 6) (sz := 1) (sz' := 1) rfl (by kernel_rfl) rfl (opens_int Try.underlying3) (opens_last (sz := 1) rfl (by kernel_rfl) (opens_bool Try.underlying4))))))))) H enc W n0 _ _ g0 L0
  obtain ⟨a1, rfl, rfl, rfl, w1⟩ := open_int Try.underlying3 (hval 1 3 v1 rfl rfl) h1
  have hz : ∀ b, glob = some b → ∃ m, W.cell? ⟨b, 0, none⟩ = some (.int .i64 m) := fun b hb => nomatch hb
  refine (law_ev Tab.mx Tab.lt_ok Tab.ov_ok (Tab.lawSenderReady a0 q0 a1 w1) hz (rvs_cons (rv_agg K0) (rvs_cons rv_int rvs_nil))).mono fun e W' ⟨he, bel⟩ => ?_
  subst he
  exact ⟨_, rfl, _, _, _, [], _, [], hW', trodAll_mk1 (shut_bool Try.underlying4 _), (trodAll_cons_mk (Below.trod laidOut (by kernel_rfl) (of_decide_eq_true (by kernel_rfl)) k0 bel lt0) (trodAll_cons_mk (shut_int Try.underlying3 w1) trodAll_mk0)), rfl, bel.frame _, fun h => by cases h⟩
theorem over : Rows.senderReadyRow.holds Try.pinned (OpenSpec.ofChange Rows.senderReadySpec) :=
  OpenClaim.holds_of_wide 9 Try.f9 rfl rfl rfl rfl rfl rfl rfl ⟨rfl, rfl, rfl, rfl, rfl⟩ rfl rfl rfl rfl rfl (by kernel_rfl) Try.func9 (by kernel_rfl)
    (of_decide_eq_true (by kernel_rfl)) (by unfold Func.isWrapper; first | (rw [if_pos (by decide +kernel)]; kernel_rfl) | (rw [if_neg (by decide +kernel)]; exact ⟨rfl, rfl⟩))
    (fun os started H enc _ => lifted os started H enc)
theorem proved : Rows.SenderReadySaid := over
#print axioms proved
end Go.Proofs.Ytlbajfhioebphaa.senderReady
namespace Go.Proofs.Ytlbajfhioebphaa
theorem senderReady_holds : Rows.SenderReadySaid := senderReady.proved
end Go.Proofs.Ytlbajfhioebphaa
