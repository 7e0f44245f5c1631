/- The given statement ReportWrong holds, for every input: no condition. -/
import Derived.Test.YtghnffhgmhfofaaDoorEvRow
import Derived.Test.YtghnffhgmhfofaaDoorPureReportWrong
import Derived.Test.YtghnffhgmhfofaaDoorCards
import Derived.Test.YtghnffhgmhfofaaDoorTie
import Derived.SevenTiedAt
namespace Go.Proofs.YtghnffhgmhfofaaDoor.reportWrong
set_option linter.all false
open Go Go.ChangeShapes Go.WideShapes Go.ChangeAt Go.RowKit Go.Proofs.YtghnffhgmhfofaaDoor.Ev
open Go.ChangeMaps (open_string shut_string)
theorem own : ownKnob Tryd.prog.godebug = none := by kernel_rfl
theorem laidOut : laidOutB Tryd.prog = true := by kernel_rfl
set_option maxRecDepth 100000 in
theorem lifted (os : Os) (started : os.Started) (H : Type) (enc : TypeId × Value → H) :
    ReturnsInHanded {} Tryd.checked os 4 .any (fun w args => (Rows.reportWrongSpec.pre enc Tryd.prog Tryd.f4 Rows.reportWrongRow.domain false w args ∧ laidMetH Tryd.prog Rows.reportWrongRow.laid w) ∧ sizedMet enc Tryd.prog Tryd.f4 (OpenSpec.ofChange Rows.reportWrongSpec) false w args) (Rows.reportWrongSpec.post enc Tryd.prog Tryd.f4 false true false false) := by
  refine handed_and_shaped (C := Tryd.checked) (X := fun w _ => laidMetH Tryd.prog Rows.reportWrongRow.laid w) (fun _ _ _ hh h => h.of_heap hh) own started (by kernel_rfl) Tryd.func4
    (ChangeSpec.witness_shaped (enc := enc) (C := Tryd.checked) (os := os) (X := fun w _ => laidMetH Tryd.prog Rows.reportWrongRow.laid w) false (World.laidAll Tryd.prog os Rows.reportWrongRow.laid) #[.agg #[.bool false, .string ByteArray.empty, .string ByteArray.empty], .agg #[.bool false, .string ByteArray.empty, .string ByteArray.empty], .int .i64 0, .int .u8 0] 8 (World.laidAll_os _ _ _)
      (World.shaped_of_ZipB (by kernel_rfl) (by kernel_rfl)) (by kernel_rfl) (by kernel_rfl) (by kernel_rfl)
      (by rw [MakeChecks.laidMetH_plain _ _ _ (by kernel_rfl)]; exact laidMet_laidAll _ (by kernel_rfl) (by kernel_rfl))) ?_
  intro W base args ds gs before hval0 hW hsz0 hsh
  have hval : ∀ (j : Nat) t v, Tryd.f4.params[j]? = some t → args[j]? = some v → Value.okWide Tryd.prog W .any base t v := hval0
  have hW' := hW
  obtain ⟨p, q, hA0, hV, rfl, hfz, hnd⟩ := hW
  have hA : DataW.TrodAll enc Tryd.prog W 0 (fun _ => true) true Tryd.f4.params.toList args.toList ds p := hA0
  rw [Tryd.params4] at hA hval
  obtain ⟨v0, vs0, d0, ds0, p0, q0, hargs, rfl, rfl, h0, r0⟩ := trodAll_cons hA
  obtain ⟨v1, vs1, d1, ds1, p1, q1, rfl, rfl, rfl, h1, r1⟩ := trodAll_cons r0
  obtain ⟨v2, vs2, d2, ds2, p2, q2, rfl, rfl, rfl, h2, r2⟩ := trodAll_cons r1
  obtain ⟨v3, vs3, d3, ds3, p3, q3, rfl, rfl, rfl, h3, r3⟩ := trodAll_cons r2
  obtain ⟨rfl, rfl, rfl⟩ := trodAll_nil r3
  obtain rfl : args = #[v0, v1, v2, v3] := by cases args; simp_all
  obtain ⟨rfl, rfl⟩ := trodVars_none hV
  have L0 : Light Tryd.prog 23 d0 := light_of hsz0 (j := 0) (by kernel_rfl) rfl
  have L1 : Light Tryd.prog 23 d1 := light_of hsz0 (j := 1) (by kernel_rfl) rfl
  have L2 : Light Tryd.prog 3 d2 := light_of hsz0 (j := 2) (by kernel_rfl) rfl
  have L3 : Light Tryd.prog 5 d3 := light_of hsz0 (j := 3) (by kernel_rfl) rfl
  have k0 := h0
  have lt0 : ∀ x ∈ p0, x.block < W.heap.size := by obtain ⟨m, hm⟩ := k0; exact DataW.trod_lt m _ _ _ hm
  obtain ⟨n0, g0⟩ := h0
  obtain ⟨cs0, rfl, _⟩ := okWide_struct Tryd.underlying23 (hval 0 23 v0 rfl rfl)
  obtain ⟨a0, K0, _, q0⟩ := (opens_struct (sz := 3) Tryd.underlying23 (by kernel_rfl) (opens_more (off' := 1) (sz := 1) (sz' := 2) rfl (by kernel_rfl) rfl (opens_bool Tryd.underlying4) (opens_more (off' := 2) (sz := 1) (sz' := 1) rfl (by kernel_rfl) rfl (opens_string Tryd.underlying9) (opens_last (sz := 1) rfl (by kernel_rfl) (opens_string Tryd.underlying9))))) H enc W n0 _ _ g0 L0
  have k1 := h1
  have lt1 : ∀ x ∈ p1, x.block < W.heap.size := by obtain ⟨m, hm⟩ := k1; exact DataW.trod_lt m _ _ _ hm
  obtain ⟨n1, g1⟩ := h1
  obtain ⟨cs1, rfl, _⟩ := okWide_struct Tryd.underlying23 (hval 1 23 v1 rfl rfl)
  obtain ⟨a1, K1, _, q1⟩ := (opens_struct (sz := 3) Tryd.underlying23 (by kernel_rfl) (opens_more (off' := 1) (sz := 1) (sz' := 2) rfl (by kernel_rfl) rfl (opens_bool Tryd.underlying4) (opens_more (off' := 2) (sz := 1) (sz' := 1) rfl (by kernel_rfl) rfl (opens_string Tryd.underlying9) (opens_last (sz := 1) rfl (by kernel_rfl) (opens_string Tryd.underlying9))))) H enc W n1 _ _ g1 L1
  obtain ⟨a2, rfl, rfl, rfl, w2⟩ := open_int Tryd.underlying3 (hval 2 3 v2 rfl rfl) h2
  obtain ⟨a3, rfl, rfl, rfl, w3⟩ := open_int Tryd.underlying5 (hval 3 5 v3 rfl rfl) h3
  obtain ⟨a3, rfl⟩ := byte_of w3
  have hz : ∀ b, glob = some b → ∃ m, W.cell? ⟨b, 0, none⟩ = some (.int .i64 m) := fun b hb => by
    cases hb
    exact Go.Proofs.cell_of_shapedOpen_int (zero := #[.int .i64 0]) (t := 3) hsh (of_decide_eq_true (by kernel_rfl)) (by kernel_rfl) rfl (by kernel_rfl) (by kernel_rfl) Tryd.underlying3
  refine (law_ev Tab.mx Tab.lt_ok Tab.ov_ok (Tab.lawReportWrong a0 q0 a1 q1 a2 w2 a3) hz (rvs_cons (rv_agg K0) (rvs_cons (rv_agg K1) (rvs_cons rv_int (rvs_cons rv_int rvs_nil))))).mono fun e W' ⟨he, bel⟩ => ?_
  subst he
  exact ⟨_, rfl, _, _, _, [], _, [], hW', trodAll_mk1 (shut_bool Tryd.underlying4 _), (trodAll_cons_mk (Below.trod laidOut (by kernel_rfl) (of_decide_eq_true (by kernel_rfl)) k0 bel lt0) (trodAll_cons_mk (Below.trod laidOut (by kernel_rfl) (of_decide_eq_true (by kernel_rfl)) k1 bel lt1) (trodAll_cons_mk (shut_int Tryd.underlying3 w2) (trodAll_cons_mk (shut_int Tryd.underlying5 w3) trodAll_mk0)))), rfl, bel.frame _, fun h => by cases h⟩
theorem over : Rows.reportWrongRow.holds Tryd.pinned (OpenSpec.ofChange Rows.reportWrongSpec) :=
  OpenClaim.holds_of_wide 4 Tryd.f4 rfl rfl rfl rfl rfl rfl rfl ⟨rfl, rfl, rfl, rfl, rfl⟩ rfl rfl rfl rfl rfl (by kernel_rfl) Tryd.func4 (by kernel_rfl)
    (of_decide_eq_true (by kernel_rfl)) (by unfold Func.isWrapper; first | (rw [if_pos (by decide +kernel)]; kernel_rfl) | (rw [if_neg (by decide +kernel)]; exact ⟨rfl, rfl⟩))
    (fun os started H enc _ => lifted os started H enc)
theorem proved : Rows.ReportWrongSaid := over
theorem card : Rows.ReportWrongCardSaid :=
  Claim7.holds_tied_plain_at .later [] [.data, .pinned] true (true, "14938acf02ff27100e4ca865ab64c3253fee77ef70de6545509134c069c82ae8") false
    proved (fun _ h => by cases h) (by kernel_rfl) (fun _ h => by cases h) reportWrong_row_tie rfl ⟨rfl, rfl⟩ (by kernel_rfl) rfl
    (fun f fn hf hfn => by
      obtain rfl : f = 4 := Option.some.inj ((show Tryd.prog.funcNamed Rows.reportWrongRow.func = some 4 by kernel_rfl).symm.trans hf) |>.symm
      obtain rfl : fn = Tryd.f4 := (Option.some.inj (Tryd.func4.symm.trans hfn)).symm
      exact ⟨by kernel_rfl, fun j t ht => by
        rw [Tryd.params4] at ht
        have hm : t ∈ [23, 23, 3, 5] := by simpa using Array.mem_of_getElem? ht
        have hall : ([23, 23, 3, 5].all fun u => !Tryd.prog.wantsStandIn u) = true := by kernel_rfl
        exact (show Tryd.prog.wantsStandIn t = false by simpa using List.all_eq_true.1 hall t hm)⟩)
    (by kernel_rfl)
#print axioms card
end Go.Proofs.YtghnffhgmhfofaaDoor.reportWrong
namespace Go.Proofs.YtghnffhgmhfofaaDoor
theorem reportWrong_holds : Rows.ReportWrongCardSaid := reportWrong.card
end Go.Proofs.YtghnffhgmhfofaaDoor
