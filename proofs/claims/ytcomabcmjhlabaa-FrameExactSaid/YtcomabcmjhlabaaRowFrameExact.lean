/- The given statement FrameExact holds, for every input: no condition. -/
import Derived.Test.YtcomabcmjhlabaaRows
import Derived.Test.YtcomabcmjhlabaaSayFrameExact
import Derived.Test.YtcomabcmjhlabaaPureFrameExact
import Derived.Test.YtcomabcmjhlabaaOpen
import Derived.WalkKit
import Derived.ProofKit
import Derived.OpenShut
import Derived.ShutString
import Derived.ChangeOld
import Derived.Below
import Derived.SizedLaws
import Derived.ChangeArms
namespace Go.Proofs.Ytcomabcmjhlabaa.frameExact
open Go.ChangeShapes Go.WideShapes Go.ChangeAt Go.RowKit Go.Proofs.YtcomabcmjhlabaaW.PrintWords
open Go.ChangeMaps (open_string shut_string)
theorem own : ownKnob Try.prog.godebug = none := by kernel_rfl
theorem laidOut : laidOutB Try.prog = true := by kernel_rfl
set_option maxRecDepth 100000 in
theorem lifted (os : Os) (started : os.Started) (H : Type) (enc : TypeId × Value → H) :
    ReturnsInHanded {} Try.checked os 7 .any (Rows.frameExactSpec.pre6 enc Try.prog Try.f7 Rows.frameExactRow.domain false) (Rows.frameExactSpec.post enc Try.prog Try.f7 false true false false) := by
  refine returnsInHanded_of_change_sized (C := Try.checked) own started (by kernel_rfl) Try.func7
    (ChangeSpec.witness6 (enc := enc) (C := Try.checked) false ⟨#[], #[.agg #[.int .i64 0, .int .i64 0, .int .i64 0, .int .i64 0, .slice none 0 0], .slice none 0 0, .int .i64 0, .int .i64 0], []⟩ 8 (by kernel_rfl) (by kernel_rfl) (by kernel_rfl) (by kernel_rfl)) ?_
  intro W base args ds gs before hval0 hW hcnd hsz0 _
  have hval : ∀ (j : Nat) t v, Try.f7.params[j]? = some t → args[j]? = some v → Value.okWide Try.prog W .any base t v := hval0
  have hW' := hW
  obtain ⟨p, q, hA0, hV, rfl, hfz, hnd⟩ := hW
  have hA : DataW.TrodAll enc Try.prog W 0 (fun _ => true) true Try.f7.params.toList args.toList ds p := hA0
  rw [Try.params7] at hA hval
  obtain ⟨v0, vs0, d0, ds0, p0, q0, hargs, rfl, rfl, h0, r0⟩ := trodAll_cons hA
  obtain ⟨v1, vs1, d1, ds1, p1, q1, rfl, rfl, rfl, h1, r1⟩ := trodAll_cons r0
  obtain ⟨v2, vs2, d2, ds2, p2, q2, rfl, rfl, rfl, h2, r2⟩ := trodAll_cons r1
  obtain ⟨v3, vs3, d3, ds3, p3, q3, rfl, rfl, rfl, h3, r3⟩ := trodAll_cons r2
  obtain ⟨rfl, rfl, rfl⟩ := trodAll_nil r3
  obtain rfl : args = #[v0, v1, v2, v3] := by cases args; simp_all
  obtain ⟨rfl, rfl⟩ := trodVars_none hV
  have k0 := h0
  have lt0 : ∀ x ∈ p0, x.block < W.heap.size := by obtain ⟨m, hm⟩ := k0; exact DataW.trod_lt m _ _ _ hm
  obtain ⟨n0, g0⟩ := h0
  obtain ⟨cs0, rfl, _⟩ := okWide_struct Try.underlying24 (hval 0 24 v0 rfl rfl)
  obtain ⟨⟨a0_0, ⟨a0_1, ⟨a0_2, ⟨a0_3, l0_4⟩⟩⟩⟩, K0, ⟨w0_0, ⟨w0_1, ⟨w0_2, ⟨w0_3, ⟨hm0_4, hw0_4⟩⟩⟩⟩⟩⟩ := (Opn.struct_ (fun x => x) (fun x => x) (fun _ => rfl) Try.underlying24 (by kernel_rfl) (Opn.more_ (off' := 1) rfl (by kernel_rfl) rfl (Opn.int_ Try.underlying3) (Opn.more_ (off' := 2) rfl (by kernel_rfl) rfl (Opn.int_ Try.underlying3) (Opn.more_ (off' := 3) rfl (by kernel_rfl) rfl (Opn.int_ Try.underlying3) (Opn.more_ (off' := 4) rfl (by kernel_rfl) rfl (Opn.int_ Try.underlying3) (Opn.last_ rfl (by kernel_rfl) (Opn.slice_ (e := 5) (d := (Kd.int .u8)) Try.underlying22 (by kernel_rfl) (Opn.int_ Try.underlying5)))))))) H enc W n0 _ _ g0
  clear g0
  obtain ⟨ce0, he0⟩ : ∃ z, (Value.agg cs0).cells.toList = z := ⟨_, rfl⟩
  rw [he0] at K0
  obtain ⟨_, _, rfl, rfl, ⟨_, _, rfl, rfl, ⟨_, _, rfl, rfl, ⟨_, _, rfl, rfl, ⟨A0_4, c0_4, rfl, hc0_4, hr0_4⟩⟩⟩⟩⟩ := K0
  obtain rfl : cs0 = #[.int .i64 a0_0, .int .i64 a0_1, .int .i64 a0_2, .int .i64 a0_3, .slice A0_4 l0_4.length c0_4] := by cases cs0; simpa [Value.cells] using he0
  clear he0
  have k1 := h1
  have lt1 : ∀ x ∈ p1, x.block < W.heap.size := by obtain ⟨m, hm⟩ := k1; exact DataW.trod_lt m _ _ _ hm
  obtain ⟨n1, g1⟩ := h1
  obtain ⟨aa1, ll1, cc1, rfl⟩ := okWide_slice Try.underlying22 (hval 1 22 v1 rfl rfl)
  obtain ⟨l1, K1, ⟨hm1, hw1⟩⟩ := (Opn.slice_ (e := 5) (d := (Kd.int .u8)) Try.underlying22 (by kernel_rfl) (Opn.int_ Try.underlying5)) H enc W n1 _ _ g1
  clear g1
  obtain ⟨A1, c1, e1, hc1, hr1⟩ := K1
  obtain ⟨rfl, rfl, rfl⟩ : aa1 = A1 ∧ ll1 = l1.length ∧ cc1 = c1 := by simpa [Value.cells] using e1
  clear e1
  obtain ⟨a2, rfl, rfl, rfl, w2⟩ := open_int Try.underlying3 (hval 2 3 v2 rfl rfl) h2
  obtain ⟨a3, rfl, rfl, rfl, w3⟩ := open_int Try.underlying3 (hval 3 3 v3 rfl rfl) h3
  clear hA0 hval0 hsz0
  obtain ⟨k, h⟩ := Pure.FrameExact a0_0 a0_1 a0_2 a0_3 l0_4 l1 a2 a3 w0_0 w0_1 w0_2 w0_3 hm0_4 hw0_4 hm1 hw1 w2 w3
  refine (FA.wherrylaw20_FrameExact.calls k a0_0 a0_1 a0_2 a0_3 _ _ l0_4 _ _ l1 a2 a3 true W hr0_4 hc0_4 hr1 hc1 h).mono fun e W' ⟨he, hb⟩ => ?_
  subst he
  have bel : Below W.heap.size W W' := hb
  exact ⟨_, rfl, _, _, _, [], _, [], hW', trodAll_mk1 (shut_bool Try.underlying4 _), (trodAll_cons_mk (Below.trod laidOut (by kernel_rfl) (of_decide_eq_true (by kernel_rfl)) k0 bel lt0) (trodAll_cons_mk (Below.trod laidOut (by kernel_rfl) (of_decide_eq_true (by kernel_rfl)) k1 bel lt1) (trodAll_cons_mk (shut_int Try.underlying3 w2) (trodAll_cons_mk (shut_int Try.underlying3 w3) trodAll_mk0)))), rfl, bel.frame _, fun h => by cases h⟩
theorem over : Rows.frameExactRow.holds Try.pinned (OpenSpec.ofChange Rows.frameExactSpec) :=
  OpenClaim.holds_of_wide 7 Try.f7 rfl rfl rfl rfl rfl rfl rfl ⟨rfl, rfl, rfl, rfl, rfl⟩ rfl rfl rfl rfl rfl (by kernel_rfl) Try.func7 (by kernel_rfl)
    (of_decide_eq_true (by kernel_rfl)) (by unfold Func.isWrapper; first | (rw [if_pos (by decide +kernel)]; kernel_rfl) | (rw [if_neg (by decide +kernel)]; exact ⟨rfl, rfl⟩))
    (fun os started H enc _ => lifted os started H enc)
theorem proved : Rows.FrameExactSaid := over
#print axioms proved
end Go.Proofs.Ytcomabcmjhlabaa.frameExact
namespace Go.Proofs.Ytcomabcmjhlabaa
theorem frameExact_holds : Rows.FrameExactSaid := frameExact.proved
end Go.Proofs.Ytcomabcmjhlabaa
