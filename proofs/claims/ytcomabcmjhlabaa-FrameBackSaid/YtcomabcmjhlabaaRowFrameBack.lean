/- The given statement FrameBack holds, for every input: no condition. -/
import Derived.Test.YtcomabcmjhlabaaRows
import Derived.Test.YtcomabcmjhlabaaSayFrameBack
import Derived.Test.YtcomabcmjhlabaaPureFrameBack
import Derived.Test.YtcomabcmjhlabaaOpen
import Derived.WalkKit
import Derived.ProofKit
import Derived.OpenShut
import Derived.ShutString
import Derived.ChangeOld
import Derived.Below
import Derived.SizedLaws
import Derived.ChangeArms
namespace Go.Proofs.Ytcomabcmjhlabaa.frameBack
open Go.ChangeShapes Go.WideShapes Go.ChangeAt Go.RowKit Go.Proofs.YtcomabcmjhlabaaW.PrintWords
open Go.ChangeMaps (open_string shut_string)
theorem own : ownKnob Try.prog.godebug = none := by kernel_rfl
theorem laidOut : laidOutB Try.prog = true := by kernel_rfl
set_option maxRecDepth 100000 in
theorem lifted (os : Os) (started : os.Started) (H : Type) (enc : TypeId × Value → H) :
    ReturnsInHanded {} Try.checked os 3 .any (Rows.frameBackSpec.pre6 enc Try.prog Try.f3 Rows.frameBackRow.domain false) (Rows.frameBackSpec.post enc Try.prog Try.f3 false true false false) := by
  refine returnsInHanded_of_change_sized (C := Try.checked) own started (by kernel_rfl) Try.func3
    (ChangeSpec.witness6 (enc := enc) (C := Try.checked) false ⟨#[], #[.agg #[.int .i64 0, .int .i64 0, .int .i64 0, .int .i64 0, .slice none 0 0], .agg #[.int .i64 0, .int .i64 0, .int .i64 0, .int .i64 0, .slice none 0 0], .slice none 0 0], []⟩ 8 (by kernel_rfl) (by kernel_rfl) (by kernel_rfl) (by kernel_rfl)) ?_
  intro W base args ds gs before hval0 hW hcnd hsz0 _
  have hval : ∀ (j : Nat) t v, Try.f3.params[j]? = some t → args[j]? = some v → Value.okWide Try.prog W .any base t v := hval0
  have hW' := hW
  obtain ⟨p, q, hA0, hV, rfl, hfz, hnd⟩ := hW
  have hA : DataW.TrodAll enc Try.prog W 0 (fun _ => true) true Try.f3.params.toList args.toList ds p := hA0
  rw [Try.params3] at hA hval
  obtain ⟨v0, vs0, d0, ds0, p0, q0, hargs, rfl, rfl, h0, r0⟩ := trodAll_cons hA
  obtain ⟨v1, vs1, d1, ds1, p1, q1, rfl, rfl, rfl, h1, r1⟩ := trodAll_cons r0
  obtain ⟨v2, vs2, d2, ds2, p2, q2, rfl, rfl, rfl, h2, r2⟩ := trodAll_cons r1
  obtain ⟨rfl, rfl, rfl⟩ := trodAll_nil r2
  obtain rfl : args = #[v0, v1, v2] := by cases args; simp_all
  obtain ⟨rfl, rfl⟩ := trodVars_none hV
  have k0 := h0
  have lt0 : ∀ x ∈ p0, x.block < W.heap.size := by obtain ⟨m, hm⟩ := k0; exact DataW.trod_lt m _ _ _ hm
  obtain ⟨n0, g0⟩ := h0
  obtain ⟨cs0, rfl, _⟩ := okWide_struct Try.underlying24 (hval 0 24 v0 rfl rfl)
  obtain ⟨⟨a0_0, ⟨a0_1, ⟨a0_2, ⟨a0_3, l0_4⟩⟩⟩⟩, K0, ⟨w0_0, ⟨w0_1, ⟨w0_2, ⟨w0_3, ⟨hm0_4, hw0_4⟩⟩⟩⟩⟩⟩ := (Opn.struct_ (fun x => x) (fun x => x) (fun _ => rfl) Try.underlying24 (by kernel_rfl) (Opn.more_ (off' := 1) rfl (by kernel_rfl) rfl (Opn.int_ Try.underlying3) (Opn.more_ (off' := 2) rfl (by kernel_rfl) rfl (Opn.int_ Try.underlying3) (Opn.more_ (off' := 3) rfl (by kernel_rfl) rfl (Opn.int_ Try.underlying3) (Opn.more_ (off' := 4) rfl (by kernel_rfl) rfl (Opn.int_ Try.underlying3) (Opn.last_ rfl (by kernel_rfl) (Opn.slice_ (e := 5) (d := (Kd.int .u8)) Try.underlying22 (by kernel_rfl) (Opn.int_ Try.underlying5)))))))) H enc W n0 _ _ g0
  clear g0
  obtain ⟨ce0, he0⟩ : ∃ z, (Value.agg cs0).cells.toList = z := ⟨_, rfl⟩
  rw [he0] at K0
  obtain ⟨_, _, rfl, rfl, ⟨_, _, rfl, rfl, ⟨_, _, rfl, rfl, ⟨_, _, rfl, rfl, ⟨A0_4, c0_4, rfl, hc0_4, hr0_4⟩⟩⟩⟩⟩ := K0
  obtain rfl : cs0 = #[.int .i64 a0_0, .int .i64 a0_1, .int .i64 a0_2, .int .i64 a0_3, .slice A0_4 l0_4.length c0_4] := by cases cs0; simpa [Value.cells] using he0
  clear he0
  have k1 := h1
  have lt1 : ∀ x ∈ p1, x.block < W.heap.size := by obtain ⟨m, hm⟩ := k1; exact DataW.trod_lt m _ _ _ hm
  obtain ⟨n1, g1⟩ := h1
  obtain ⟨cs1, rfl, _⟩ := okWide_struct Try.underlying24 (hval 1 24 v1 rfl rfl)
  obtain ⟨⟨a1_0, ⟨a1_1, ⟨a1_2, ⟨a1_3, l1_4⟩⟩⟩⟩, K1, ⟨w1_0, ⟨w1_1, ⟨w1_2, ⟨w1_3, ⟨hm1_4, hw1_4⟩⟩⟩⟩⟩⟩ := (Opn.struct_ (fun x => x) (fun x => x) (fun _ => rfl) Try.underlying24 (by kernel_rfl) (Opn.more_ (off' := 1) rfl (by kernel_rfl) rfl (Opn.int_ Try.underlying3) (Opn.more_ (off' := 2) rfl (by kernel_rfl) rfl (Opn.int_ Try.underlying3) (Opn.more_ (off' := 3) rfl (by kernel_rfl) rfl (Opn.int_ Try.underlying3) (Opn.more_ (off' := 4) rfl (by kernel_rfl) rfl (Opn.int_ Try.underlying3) (Opn.last_ rfl (by kernel_rfl) (Opn.slice_ (e := 5) (d := (Kd.int .u8)) Try.underlying22 (by kernel_rfl) (Opn.int_ Try.underlying5)))))))) H enc W n1 _ _ g1
  clear g1
  obtain ⟨ce1, he1⟩ : ∃ z, (Value.agg cs1).cells.toList = z := ⟨_, rfl⟩
  rw [he1] at K1
  obtain ⟨_, _, rfl, rfl, ⟨_, _, rfl, rfl, ⟨_, _, rfl, rfl, ⟨_, _, rfl, rfl, ⟨A1_4, c1_4, rfl, hc1_4, hr1_4⟩⟩⟩⟩⟩ := K1
  obtain rfl : cs1 = #[.int .i64 a1_0, .int .i64 a1_1, .int .i64 a1_2, .int .i64 a1_3, .slice A1_4 l1_4.length c1_4] := by cases cs1; simpa [Value.cells] using he1
  clear he1
  have k2 := h2
  have lt2 : ∀ x ∈ p2, x.block < W.heap.size := by obtain ⟨m, hm⟩ := k2; exact DataW.trod_lt m _ _ _ hm
  obtain ⟨n2, g2⟩ := h2
  obtain ⟨aa2, ll2, cc2, rfl⟩ := okWide_slice Try.underlying22 (hval 2 22 v2 rfl rfl)
  obtain ⟨l2, K2, ⟨hm2, hw2⟩⟩ := (Opn.slice_ (e := 5) (d := (Kd.int .u8)) Try.underlying22 (by kernel_rfl) (Opn.int_ Try.underlying5)) H enc W n2 _ _ g2
  clear g2
  obtain ⟨A2, c2, e2, hc2, hr2⟩ := K2
  obtain ⟨rfl, rfl, rfl⟩ : aa2 = A2 ∧ ll2 = l2.length ∧ cc2 = c2 := by simpa [Value.cells] using e2
  clear e2
  clear hA0 hval0 hsz0
  obtain ⟨k, h⟩ := Pure.FrameBack a0_0 a0_1 a0_2 a0_3 l0_4 a1_0 a1_1 a1_2 a1_3 l1_4 l2 w0_0 w0_1 w0_2 w0_3 hm0_4 hw0_4 w1_0 w1_1 w1_2 w1_3 hm1_4 hw1_4 hm2 hw2
  refine (FA.wherrylaw20_FrameBack.calls k a0_0 a0_1 a0_2 a0_3 _ _ l0_4 a1_0 a1_1 a1_2 a1_3 _ _ l1_4 _ _ l2 true W hr0_4 hc0_4 hr1_4 hc1_4 hr2 hc2 h).mono fun e W' ⟨he, hb⟩ => ?_
  subst he
  have bel : Below W.heap.size W W' := hb
  exact ⟨_, rfl, _, _, _, [], _, [], hW', trodAll_mk1 (shut_bool Try.underlying4 _), (trodAll_cons_mk (Below.trod laidOut (by kernel_rfl) (of_decide_eq_true (by kernel_rfl)) k0 bel lt0) (trodAll_cons_mk (Below.trod laidOut (by kernel_rfl) (of_decide_eq_true (by kernel_rfl)) k1 bel lt1) (trodAll_cons_mk (Below.trod laidOut (by kernel_rfl) (of_decide_eq_true (by kernel_rfl)) k2 bel lt2) trodAll_mk0))), rfl, bel.frame _, fun h => by cases h⟩
theorem over : Rows.frameBackRow.holds Try.pinned (OpenSpec.ofChange Rows.frameBackSpec) :=
  OpenClaim.holds_of_wide 3 Try.f3 rfl rfl rfl rfl rfl rfl rfl ⟨rfl, rfl, rfl, rfl, rfl⟩ rfl rfl rfl rfl rfl (by kernel_rfl) Try.func3 (by kernel_rfl)
    (of_decide_eq_true (by kernel_rfl)) (by unfold Func.isWrapper; first | (rw [if_pos (by decide +kernel)]; kernel_rfl) | (rw [if_neg (by decide +kernel)]; exact ⟨rfl, rfl⟩))
    (fun os started H enc _ => lifted os started H enc)
theorem proved : Rows.FrameBackSaid := over
#print axioms proved
end Go.Proofs.Ytcomabcmjhlabaa.frameBack
namespace Go.Proofs.Ytcomabcmjhlabaa
theorem frameBack_holds : Rows.FrameBackSaid := frameBack.proved
end Go.Proofs.Ytcomabcmjhlabaa
