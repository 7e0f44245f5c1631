/- The given statement SenderAsks holds, for every input: no condition. -/
import Derived.Test.YtlbajfhioebphaaRows
import Derived.Test.YtlbajfhioebphaaSaySenderAsks
import Derived.Test.YtlbajfhioebphaaPureSenderAsks
import Derived.Test.YtlbajfhioebphaaOpen
import Derived.Test.YtlbajfhioebphaaWFoot
import Derived.WalkKit
import Derived.ProofKit
import Derived.OpenShut
import Derived.ShutString
import Derived.ChangeOld
import Derived.Below
import Derived.SizedLaws
import Derived.ChangeArms
namespace Go.Proofs.Ytlbajfhioebphaa.senderAsks
open Go.ChangeShapes Go.WideShapes Go.ChangeAt Go.RowKit Go.Proofs.YtlbajfhioebphaaW.PrintWords
open Go.ChangeMaps (open_string shut_string)
theorem own : ownKnob Try.prog.godebug = none := by kernel_rfl
theorem laidOut : laidOutB Try.prog = true := by kernel_rfl
set_option maxRecDepth 100000 in
theorem lifted (os : Os) (started : os.Started) (H : Type) (enc : TypeId × Value → H) :
    ReturnsInHanded {} Try.checked os 3 .any (Rows.senderAsksSpec.pre6 enc Try.prog Try.f3 Rows.senderAsksRow.domain false) (Rows.senderAsksSpec.post enc Try.prog Try.f3 false true false false) := by
  refine returnsInHanded_of_change_sized (C := Try.checked) own started (by kernel_rfl) Try.func3
    (ChangeSpec.witness6 (enc := enc) (C := Try.checked) false ⟨#[], #[.agg #[.int .i64 0, .slice none 0 0, .bool false, .int .i64 0, .int .i64 0, .int .i64 0, .bool false], .int .i64 0], []⟩ 8 (by kernel_rfl) (by kernel_rfl) (by kernel_rfl) (by kernel_rfl)) ?_
  intro W base args ds gs before hval0 hW hcnd hsz0 _
  have hval : ∀ (j : Nat) t v, Try.f3.params[j]? = some t → args[j]? = some v → Value.okWide Try.prog W .any base t v := hval0
  have hW' := hW
  obtain ⟨p, q, hA0, hV, rfl, hfz, hnd⟩ := hW
  have hA : DataW.TrodAll enc Try.prog W 0 (fun _ => true) true Try.f3.params.toList args.toList ds p := hA0
  rw [Try.params3] at hA hval
  obtain ⟨v0, vs0, d0, ds0, p0, q0, hargs, rfl, rfl, h0, r0⟩ := trodAll_cons hA
  obtain ⟨v1, vs1, d1, ds1, p1, q1, rfl, rfl, rfl, h1, r1⟩ := trodAll_cons r0
  obtain ⟨rfl, rfl, rfl⟩ := trodAll_nil r1
  obtain rfl : args = #[v0, v1] := by cases args; simp_all
  obtain ⟨rfl, rfl⟩ := trodVars_none hV
  have k0 := h0
  have lt0 : ∀ x ∈ p0, x.block < W.heap.size := by obtain ⟨m, hm⟩ := k0; exact DataW.trod_lt m _ _ _ hm
  obtain ⟨n0, g0⟩ := h0
  obtain ⟨cs0, rfl, _⟩ := okWide_struct Try.underlying24 (hval 0 24 v0 rfl rfl)
  obtain ⟨⟨a0_0, ⟨l0_1, ⟨a0_2, ⟨a0_3, ⟨a0_4, ⟨a0_5, a0_6⟩⟩⟩⟩⟩⟩, K0, ⟨w0_0, ⟨⟨hm0_1, hw0_1⟩, ⟨-, ⟨w0_3, ⟨w0_4, ⟨w0_5, -⟩⟩⟩⟩⟩⟩⟩ := (Opn.struct_ (fun x => x) (fun x => x) (fun _ => rfl) Try.underlying24 (by kernel_rfl) (Opn.more_ (off' := 1) rfl (by kernel_rfl) rfl (Opn.int_ Try.underlying3) (Opn.more_ (off' := 2) rfl (by kernel_rfl) rfl (Opn.slice_ (e := 5) (d := (Kd.int .u8)) Try.underlying22 (by kernel_rfl) (Opn.int_ Try.underlying5)) (Opn.more_ (off' := 3) rfl (by kernel_rfl) rfl (Opn.bool_ Try.underlying4) (Opn.more_ (off' := 4) rfl (by kernel_rfl) rfl (Opn.int_ Try.underlying3) (Opn.more_ (off' := 5) rfl (by kernel_rfl) rfl (Opn.int_ Try.underlying3) (Opn.more_ (off' := 6) rfl (by kernel_rfl) rfl (Opn.int_ Try.underlying3) (Opn.last_ rfl (by kernel_rfl) (Opn.bool_ Try.underlying4))))))))) H enc W n0 _ _ g0
  clear g0
  obtain ⟨ce0, he0⟩ : ∃ z, (Value.agg cs0).cells.toList = z := ⟨_, rfl⟩
  rw [he0] at K0
  obtain ⟨_, _, rfl, rfl, ⟨_, _, rfl, ⟨A0_1, c0_1, rfl, hc0_1, hr0_1⟩, ⟨_, _, rfl, rfl, ⟨_, _, rfl, rfl, ⟨_, _, rfl, rfl, ⟨_, _, rfl, rfl, rfl⟩⟩⟩⟩⟩⟩ := K0
  obtain rfl : cs0 = #[.int .i64 a0_0, .slice A0_1 l0_1.length c0_1, .bool a0_2, .int .i64 a0_3, .int .i64 a0_4, .int .i64 a0_5, .bool a0_6] := by cases cs0; simpa [Value.cells] using he0
  clear he0
  obtain ⟨a1, rfl, rfl, rfl, w1⟩ := open_int Try.underlying3 (hval 1 3 v1 rfl rfl) h1
  clear hA0 hval0 hsz0
  obtain ⟨k, h⟩ := Pure.SenderAsks a0_0 l0_1 a0_2 a0_3 a0_4 a0_5 a0_6 a1 w0_0 hm0_1 hw0_1 w0_3 w0_4 w0_5 w1
  refine (FA.wherrylaw21_SenderAsks.calls k a0_0 (fun _ => True) _ _ l0_1 a0_2 a0_3 a0_4 a0_5 a0_6 a1 true W (Kd.V_mk hc0_1 (fun W' hW => Kd.Heap.C (Kd.heap_int _) (fun k hlt => hW k trivial hlt) hr0_1)) h).mono fun e W' ⟨he, hb⟩ => ?_
  subst he
  have bel : Below W.heap.size W W' := hb
  exact ⟨_, rfl, _, _, _, [], _, [], hW', trodAll_mk1 (shut_bool Try.underlying4 _), (trodAll_cons_mk (Below.trod laidOut (by kernel_rfl) (of_decide_eq_true (by kernel_rfl)) k0 bel lt0) (trodAll_cons_mk (shut_int Try.underlying3 w1) trodAll_mk0)), rfl, bel.frame _, fun h => by cases h⟩
theorem over : Rows.senderAsksRow.holds Try.pinned (OpenSpec.ofChange Rows.senderAsksSpec) :=
  OpenClaim.holds_of_wide 3 Try.f3 rfl rfl rfl rfl rfl rfl rfl ⟨rfl, rfl, rfl, rfl, rfl⟩ rfl rfl rfl rfl rfl (by kernel_rfl) Try.func3 (by kernel_rfl)
    (of_decide_eq_true (by kernel_rfl)) (by unfold Func.isWrapper; first | (rw [if_pos (by decide +kernel)]; kernel_rfl) | (rw [if_neg (by decide +kernel)]; exact ⟨rfl, rfl⟩))
    (fun os started H enc _ => lifted os started H enc)
theorem proved : Rows.SenderAsksSaid := over
#print axioms proved
end Go.Proofs.Ytlbajfhioebphaa.senderAsks
namespace Go.Proofs.Ytlbajfhioebphaa
theorem senderAsks_holds : Rows.SenderAsksSaid := senderAsks.proved
end Go.Proofs.Ytlbajfhioebphaa
