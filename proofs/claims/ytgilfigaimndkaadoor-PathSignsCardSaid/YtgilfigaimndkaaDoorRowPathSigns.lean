/- The given statement PathSigns holds, for every input: no condition. -/
import Derived.Test.YtgilfigaimndkaaDoorEvRow
import Derived.Test.YtgilfigaimndkaaDoorPurePathSigns
import Derived.Test.YtgilfigaimndkaaDoorCards
import Derived.Test.YtgilfigaimndkaaDoorTie
import Derived.SevenTiedAt
namespace Go.Proofs.YtgilfigaimndkaaDoor.pathSigns
set_option linter.all false
open Go Go.ChangeShapes Go.WideShapes Go.ChangeAt Go.RowKit Go.Proofs.YtgilfigaimndkaaDoor.Ev
open Go.ChangeMaps (open_string shut_string)
theorem own : ownKnob Tryd.prog.godebug = none := by kernel_rfl
theorem laidOut : laidOutB Tryd.prog = true := by kernel_rfl
set_option maxRecDepth 100000 in
theorem lifted (os : Os) (started : os.Started) (H : Type) (enc : TypeId × Value → H) :
    ReturnsInHanded {} Tryd.checked os 8 .any (fun w args => (Rows.pathSignsSpec.pre enc Tryd.prog Tryd.f8 Rows.pathSignsRow.domain false w args ∧ laidMetH Tryd.prog Rows.pathSignsRow.laid w) ∧ sizedMet enc Tryd.prog Tryd.f8 (OpenSpec.ofChange Rows.pathSignsSpec) false w args) (Rows.pathSignsSpec.post enc Tryd.prog Tryd.f8 false true false false) := by
  refine handed_and_shaped (C := Tryd.checked) (X := fun w _ => laidMetH Tryd.prog Rows.pathSignsRow.laid w) (fun _ _ _ hh h => h.of_heap hh) own started (by kernel_rfl) Tryd.func8
    (ChangeSpec.witness_shaped (enc := enc) (C := Tryd.checked) (os := os) (X := fun w _ => laidMetH Tryd.prog Rows.pathSignsRow.laid w) false (World.laidAll Tryd.prog os Rows.pathSignsRow.laid) #[.int .u8 0, .agg #[.bool false, .string ByteArray.empty, .string ByteArray.empty]] 8 (World.laidAll_os _ _ _)
      (World.shaped_of_ZipB (by kernel_rfl) (by kernel_rfl)) (by kernel_rfl) (by kernel_rfl) (by kernel_rfl)
      (by rw [MakeChecks.laidMetH_plain _ _ _ (by kernel_rfl)]; exact laidMet_laidAll _ (by kernel_rfl) (by kernel_rfl))) ?_
  intro W base args ds gs before hval0 hW hsz0 hsh
  have hval : ∀ (j : Nat) t v, Tryd.f8.params[j]? = some t → args[j]? = some v → Value.okWide Tryd.prog W .any base t v := hval0
  have hW' := hW
  obtain ⟨p, q, hA0, hV, rfl, hfz, hnd⟩ := hW
  have hA : DataW.TrodAll enc Tryd.prog W 0 (fun _ => true) true Tryd.f8.params.toList args.toList ds p := hA0
  rw [Tryd.params8] at hA hval
  obtain ⟨v0, vs0, d0, ds0, p0, q0, hargs, rfl, rfl, h0, r0⟩ := trodAll_cons hA
  obtain ⟨v1, vs1, d1, ds1, p1, q1, rfl, rfl, rfl, h1, r1⟩ := trodAll_cons r0
  obtain ⟨rfl, rfl, rfl⟩ := trodAll_nil r1
  obtain rfl : args = #[v0, v1] := by cases args; simp_all
  obtain ⟨rfl, rfl⟩ := trodVars_none hV
  have L0 : Light Tryd.prog 5 d0 := light_of hsz0 (j := 0) (by kernel_rfl) rfl
  have L1 : Light Tryd.prog 23 d1 := light_of hsz0 (j := 1) (by kernel_rfl) rfl
  obtain ⟨a0, rfl, rfl, rfl, w0⟩ := open_int Tryd.underlying5 (hval 0 5 v0 rfl rfl) h0
  obtain ⟨a0, rfl⟩ := byte_of w0
  have k1 := h1
  have lt1 : ∀ x ∈ p1, x.block < W.heap.size := by obtain ⟨m, hm⟩ := k1; exact DataW.trod_lt m _ _ _ hm
  obtain ⟨n1, g1⟩ := h1
  obtain ⟨cs1, rfl, _⟩ := okWide_struct Tryd.underlying23 (hval 1 23 v1 rfl rfl)
  obtain ⟨a1, K1, _, q1⟩ := (opens_struct (sz := 3) Tryd.underlying23 (by kernel_rfl) (opens_more (off' := 1) (sz := 1) (sz' := 2) rfl (by kernel_rfl) rfl (opens_bool Tryd.underlying4) (opens_more (off' := 2) (sz := 1) (sz' := 1) rfl (by kernel_rfl) rfl (opens_string Tryd.underlying9) (opens_last (sz := 1) rfl (by kernel_rfl) (opens_string Tryd.underlying9))))) H enc W n1 _ _ g1 L1
  have hz : ∀ b, glob = some b → ∃ m, W.cell? ⟨b, 0, none⟩ = some (.int .i64 m) := fun b hb => by
    cases hb
    exact Go.Proofs.cell_of_shapedOpen_int (zero := #[.int .i64 0]) (t := 3) hsh (of_decide_eq_true (by kernel_rfl)) (by kernel_rfl) rfl (by kernel_rfl) (by kernel_rfl) Tryd.underlying3
  refine (law_ev Tab.mx Tab.lt_ok Tab.ov_ok (Tab.lawPathSigns a0 a1 q1) hz (rvs_cons rv_int (rvs_cons (rv_agg K1) rvs_nil))).mono fun e W' ⟨he, bel⟩ => ?_
  subst he
  exact ⟨_, rfl, _, _, _, [], _, [], hW', trodAll_mk1 (shut_bool Tryd.underlying4 _), (trodAll_cons_mk (shut_int Tryd.underlying5 w0) (trodAll_cons_mk (Below.trod laidOut (by kernel_rfl) (of_decide_eq_true (by kernel_rfl)) k1 bel lt1) trodAll_mk0)), rfl, bel.frame _, fun h => by cases h⟩
theorem over : Rows.pathSignsRow.holds Tryd.pinned (OpenSpec.ofChange Rows.pathSignsSpec) :=
  OpenClaim.holds_of_wide 8 Tryd.f8 rfl rfl rfl rfl rfl rfl rfl ⟨rfl, rfl, rfl, rfl, rfl⟩ rfl rfl rfl rfl rfl (by kernel_rfl) Tryd.func8 (by kernel_rfl)
    (of_decide_eq_true (by kernel_rfl)) (by unfold Func.isWrapper; first | (rw [if_pos (by decide +kernel)]; kernel_rfl) | (rw [if_neg (by decide +kernel)]; exact ⟨rfl, rfl⟩))
    (fun os started H enc _ => lifted os started H enc)
theorem proved : Rows.PathSignsSaid := over
theorem card : Rows.PathSignsCardSaid :=
  Claim7.holds_tied_plain_at .later [] [.data, .pinned] true (true, "62afe3c96d393e140f71d142e7584ad3e42a1dede33976ccbb9c2945ad0bb5a1") false
    proved (fun _ h => by cases h) (by kernel_rfl) (fun _ h => by cases h) pathSigns_row_tie rfl ⟨rfl, rfl⟩ (by kernel_rfl) rfl
    (fun f fn hf hfn => by
      obtain rfl : f = 8 := Option.some.inj ((show Tryd.prog.funcNamed Rows.pathSignsRow.func = some 8 by kernel_rfl).symm.trans hf) |>.symm
      obtain rfl : fn = Tryd.f8 := (Option.some.inj (Tryd.func8.symm.trans hfn)).symm
      exact ⟨by kernel_rfl, fun j t ht => by
        rw [Tryd.params8] at ht
        have hm : t ∈ [5, 23] := by simpa using Array.mem_of_getElem? ht
        have hall : ([5, 23].all fun u => !Tryd.prog.wantsStandIn u) = true := by kernel_rfl
        exact (show Tryd.prog.wantsStandIn t = false by simpa using List.all_eq_true.1 hall t hm)⟩)
    (by kernel_rfl)
#print axioms card
end Go.Proofs.YtgilfigaimndkaaDoor.pathSigns
namespace Go.Proofs.YtgilfigaimndkaaDoor
theorem pathSigns_holds : Rows.PathSignsCardSaid := pathSigns.card
end Go.Proofs.YtgilfigaimndkaaDoor
