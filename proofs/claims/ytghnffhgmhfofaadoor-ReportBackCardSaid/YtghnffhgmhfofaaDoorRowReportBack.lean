/- The given statement ReportBack holds, for every input: no condition. -/
import Derived.Test.YtghnffhgmhfofaaDoorEvRow
import Derived.Test.YtghnffhgmhfofaaDoorPureReportBack
import Derived.Test.YtghnffhgmhfofaaDoorCards
import Derived.Test.YtghnffhgmhfofaaDoorTie
import Derived.SevenTiedAt
namespace Go.Proofs.YtghnffhgmhfofaaDoor.reportBack
set_option linter.all false
open Go Go.ChangeShapes Go.WideShapes Go.ChangeAt Go.RowKit Go.Proofs.YtghnffhgmhfofaaDoor.Ev
open Go.ChangeMaps (open_string shut_string)
theorem own : ownKnob Tryd.prog.godebug = none := by kernel_rfl
theorem laidOut : laidOutB Tryd.prog = true := by kernel_rfl
set_option maxRecDepth 100000 in
theorem lifted (os : Os) (started : os.Started) (H : Type) (enc : TypeId × Value → H) :
    ReturnsInHanded {} Tryd.checked os 5 .any (fun w args => (Rows.reportBackSpec.pre enc Tryd.prog Tryd.f5 Rows.reportBackRow.domain false w args ∧ laidMetH Tryd.prog Rows.reportBackRow.laid w) ∧ sizedMet enc Tryd.prog Tryd.f5 (OpenSpec.ofChange Rows.reportBackSpec) false w args) (Rows.reportBackSpec.post enc Tryd.prog Tryd.f5 false true false false) := by
  refine handed_and_shaped (C := Tryd.checked) (X := fun w _ => laidMetH Tryd.prog Rows.reportBackRow.laid w) (fun _ _ _ hh h => h.of_heap hh) own started (by kernel_rfl) Tryd.func5
    (ChangeSpec.witness_shaped (enc := enc) (C := Tryd.checked) (os := os) (X := fun w _ => laidMetH Tryd.prog Rows.reportBackRow.laid w) false (World.laidAll Tryd.prog os Rows.reportBackRow.laid) #[.string ByteArray.empty, .agg #[.bool false, .string ByteArray.empty, .string ByteArray.empty], .agg #[.bool false, .string ByteArray.empty, .string ByteArray.empty], .int .u8 0] 8 (World.laidAll_os _ _ _)
      (World.shaped_of_ZipB (by kernel_rfl) (by kernel_rfl)) (by kernel_rfl) (by kernel_rfl) (by kernel_rfl)
      (by rw [MakeChecks.laidMetH_plain _ _ _ (by kernel_rfl)]; exact laidMet_laidAll _ (by kernel_rfl) (by kernel_rfl))) ?_
  intro W base args ds gs before hval0 hW hsz0 hsh
  have hval : ∀ (j : Nat) t v, Tryd.f5.params[j]? = some t → args[j]? = some v → Value.okWide Tryd.prog W .any base t v := hval0
  have hW' := hW
  obtain ⟨p, q, hA0, hV, rfl, hfz, hnd⟩ := hW
  have hA : DataW.TrodAll enc Tryd.prog W 0 (fun _ => true) true Tryd.f5.params.toList args.toList ds p := hA0
  rw [Tryd.params5] at hA hval
  obtain ⟨v0, vs0, d0, ds0, p0, q0, hargs, rfl, rfl, h0, r0⟩ := trodAll_cons hA
  obtain ⟨v1, vs1, d1, ds1, p1, q1, rfl, rfl, rfl, h1, r1⟩ := trodAll_cons r0
  obtain ⟨v2, vs2, d2, ds2, p2, q2, rfl, rfl, rfl, h2, r2⟩ := trodAll_cons r1
  obtain ⟨v3, vs3, d3, ds3, p3, q3, rfl, rfl, rfl, h3, r3⟩ := trodAll_cons r2
  obtain ⟨rfl, rfl, rfl⟩ := trodAll_nil r3
  obtain rfl : args = #[v0, v1, v2, v3] := by cases args; simp_all
  obtain ⟨rfl, rfl⟩ := trodVars_none hV
  have L0 : Light Tryd.prog 9 d0 := light_of hsz0 (j := 0) (by kernel_rfl) rfl
  have L1 : Light Tryd.prog 23 d1 := light_of hsz0 (j := 1) (by kernel_rfl) rfl
  have L2 : Light Tryd.prog 23 d2 := light_of hsz0 (j := 2) (by kernel_rfl) rfl
  have L3 : Light Tryd.prog 5 d3 := light_of hsz0 (j := 3) (by kernel_rfl) rfl
  obtain ⟨a0, rfl, rfl, rfl, w0⟩ := open_string Tryd.underlying9 (hval 0 9 v0 rfl rfl) h0
  have k1 := h1
  have lt1 : ∀ x ∈ p1, x.block < W.heap.size := by obtain ⟨m, hm⟩ := k1; exact DataW.trod_lt m _ _ _ hm
  obtain ⟨n1, g1⟩ := h1
  obtain ⟨cs1, rfl, _⟩ := okWide_struct Tryd.underlying23 (hval 1 23 v1 rfl rfl)
  obtain ⟨a1, K1, _, q1⟩ := (opens_struct (sz := 3) Tryd.underlying23 (by kernel_rfl) (opens_more (off' := 1) (sz := 1) (sz' := 2) rfl (by kernel_rfl) rfl (opens_bool Tryd.underlying4) (opens_more (off' := 2) (sz := 1) (sz' := 1) rfl (by kernel_rfl) rfl (opens_string Tryd.underlying9) (opens_last (sz := 1) rfl (by kernel_rfl) (opens_string Tryd.underlying9))))) H enc W n1 _ _ g1 L1
  have k2 := h2
  have lt2 : ∀ x ∈ p2, x.block < W.heap.size := by obtain ⟨m, hm⟩ := k2; exact DataW.trod_lt m _ _ _ hm
  obtain ⟨n2, g2⟩ := h2
  obtain ⟨cs2, rfl, _⟩ := okWide_struct Tryd.underlying23 (hval 2 23 v2 rfl rfl)
  obtain ⟨a2, K2, _, q2⟩ := (opens_struct (sz := 3) Tryd.underlying23 (by kernel_rfl) (opens_more (off' := 1) (sz := 1) (sz' := 2) rfl (by kernel_rfl) rfl (opens_bool Tryd.underlying4) (opens_more (off' := 2) (sz := 1) (sz' := 1) rfl (by kernel_rfl) rfl (opens_string Tryd.underlying9) (opens_last (sz := 1) rfl (by kernel_rfl) (opens_string Tryd.underlying9))))) H enc W n2 _ _ g2 L2
  obtain ⟨a3, rfl, rfl, rfl, w3⟩ := open_int Tryd.underlying5 (hval 3 5 v3 rfl rfl) h3
  obtain ⟨a3, rfl⟩ := byte_of w3
  have hz : ∀ b, glob = some b → ∃ m, W.cell? ⟨b, 0, none⟩ = some (.int .i64 m) := fun b hb => by
    cases hb
    exact Go.Proofs.cell_of_shapedOpen_int (zero := #[.int .i64 0]) (t := 3) hsh (of_decide_eq_true (by kernel_rfl)) (by kernel_rfl) rfl (by kernel_rfl) (by kernel_rfl) Tryd.underlying3
  refine (law_ev Tab.mx Tab.lt_ok Tab.ov_ok (Tab.lawReportBack a0.data.toList (L0 _ (by simp [DataW.weights])) a1 q1 a2 q2 a3) hz (rvs_cons rv_str (rvs_cons (rv_agg K1) (rvs_cons (rv_agg K2) (rvs_cons rv_int rvs_nil))))).mono fun e W' ⟨he, bel⟩ => ?_
  subst he
  exact ⟨_, rfl, _, _, _, [], _, [], hW', trodAll_mk1 (shut_bool Tryd.underlying4 _), (trodAll_cons_mk (shut_string Tryd.underlying9 w0) (trodAll_cons_mk (Below.trod laidOut (by kernel_rfl) (of_decide_eq_true (by kernel_rfl)) k1 bel lt1) (trodAll_cons_mk (Below.trod laidOut (by kernel_rfl) (of_decide_eq_true (by kernel_rfl)) k2 bel lt2) (trodAll_cons_mk (shut_int Tryd.underlying5 w3) trodAll_mk0)))), rfl, bel.frame _, fun h => by cases h⟩
theorem over : Rows.reportBackRow.holds Tryd.pinned (OpenSpec.ofChange Rows.reportBackSpec) :=
  OpenClaim.holds_of_wide 5 Tryd.f5 rfl rfl rfl rfl rfl rfl rfl ⟨rfl, rfl, rfl, rfl, rfl⟩ rfl rfl rfl rfl rfl (by kernel_rfl) Tryd.func5 (by kernel_rfl)
    (of_decide_eq_true (by kernel_rfl)) (by unfold Func.isWrapper; first | (rw [if_pos (by decide +kernel)]; kernel_rfl) | (rw [if_neg (by decide +kernel)]; exact ⟨rfl, rfl⟩))
    (fun os started H enc _ => lifted os started H enc)
theorem proved : Rows.ReportBackSaid := over
theorem card : Rows.ReportBackCardSaid :=
  Claim7.holds_tied_plain_at .later [] [.data, .pinned] true (true, "14938acf02ff27100e4ca865ab64c3253fee77ef70de6545509134c069c82ae8") false
    proved (fun _ h => by cases h) (by kernel_rfl) (fun _ h => by cases h) reportBack_row_tie rfl ⟨rfl, rfl⟩ (by kernel_rfl) rfl
    (fun f fn hf hfn => by
      obtain rfl : f = 5 := Option.some.inj ((show Tryd.prog.funcNamed Rows.reportBackRow.func = some 5 by kernel_rfl).symm.trans hf) |>.symm
      obtain rfl : fn = Tryd.f5 := (Option.some.inj (Tryd.func5.symm.trans hfn)).symm
      exact ⟨by kernel_rfl, fun j t ht => by
        rw [Tryd.params5] at ht
        have hm : t ∈ [9, 23, 23, 5] := by simpa using Array.mem_of_getElem? ht
        have hall : ([9, 23, 23, 5].all fun u => !Tryd.prog.wantsStandIn u) = true := by kernel_rfl
        exact (show Tryd.prog.wantsStandIn t = false by simpa using List.all_eq_true.1 hall t hm)⟩)
    (by kernel_rfl)
#print axioms card
end Go.Proofs.YtghnffhgmhfofaaDoor.reportBack
namespace Go.Proofs.YtghnffhgmhfofaaDoor
theorem reportBack_holds : Rows.ReportBackCardSaid := reportBack.card
end Go.Proofs.YtghnffhgmhfofaaDoor
