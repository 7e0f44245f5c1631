/- Functions of the program, each told as a plain Lean function, and that the program computes it: written by this session's own program. -/
import Derived.Test.YtcomabcmjhlabaaFAx0
import Derived.Test.YtcomabcmjhlabaaFAx4
import Derived.Test.YtcomabcmjhlabaaFAx13
namespace Go.Proofs.Ytcomabcmjhlabaa.FA
open Go.RowKit Go.Proofs.YtcomabcmjhlabaaW.PrintWords Go.Proofs.YtcomabcmjhlabaaW.PrintLast Go.Proofs.YtcomabcmjhlabaaW.PrintMore
attribute [local go_sem] max2_int min2_int max_two min_two max_three min_three max_four min_four   -- for this text's walks alone
set_option linter.unusedVariables false
set_option linter.unusedSimpArgs false

/-! ### wherrylaw20_FrameSpoils: function 9 -/
mutual
def wherrylaw20_FrameSpoils.j0 : Nat → List Int → Int → List Int → Int → Int → Option (Bool)
 | 0, _, _, _, _, _ => none
 | k + 1, x0, x2, x7, x8, x9 => wherrylaw20_FrameSpoils.l0 k x0 x2 x7 x8 x9 0
def wherrylaw20_FrameSpoils.l0 : Nat → List Int → Int → List Int → Int → Int → Int → Option (Bool)
 | 0, _, _, _, _, _, _ => none
 | k + 1, x0, x2, x7, x8, x9, x10 => if x10 < x8 then (if 0 ≤ (wrap64 (Int.tdiv x10 8)) then (if (wrap64 (Int.tdiv x10 8)) < (x0.length : Int) then (if (wrap64 (Int.tdiv x10 8)) < (x7.length : Int) then (if 0 ≤ (IntKind.u64.wrap (Int.tmod x10 8)) then (if (Go.bits .and .u8 (shr .u8 (Go.bits .xor .u8 (rd x0 (wrap64 (Int.tdiv x10 8))) (rd x7 (wrap64 (Int.tdiv x10 8)))) (IntKind.u64.wrap (Int.tmod x10 8))) 1) = 1 then (if x10 < x9 then (wherrylaw20_FrameSpoils.j2 k x0 x2 x7 x8 x9 x10 ((Go.bits .and .u8 (shr .u8 (Go.bits .xor .u8 (rd x0 (wrap64 (Int.tdiv x10 8))) (rd x7 (wrap64 (Int.tdiv x10 8)))) (IntKind.u64.wrap (Int.tmod x10 8))) 1) == 1) true) else (if x10 ≥ (wrap64 (x9 + 16)) then (wherrylaw20_FrameSpoils.j2 k x0 x2 x7 x8 x9 x10 ((Go.bits .and .u8 (shr .u8 (Go.bits .xor .u8 (rd x0 (wrap64 (Int.tdiv x10 8))) (rd x7 (wrap64 (Int.tdiv x10 8)))) (IntKind.u64.wrap (Int.tmod x10 8))) 1) == 1) true) else (if x10 = x9 then (wherrylaw20_FrameSpoils.j2 k x0 x2 x7 x8 x9 x10 ((Go.bits .and .u8 (shr .u8 (Go.bits .xor .u8 (rd x0 (wrap64 (Int.tdiv x10 8))) (rd x7 (wrap64 (Int.tdiv x10 8)))) (IntKind.u64.wrap (Int.tmod x10 8))) 1) == 1) (!((Go.bits .and .u8 (shr .u8 (Go.bits .xor .u8 (rd x0 (wrap64 (Int.tdiv x10 8))) (rd x7 (wrap64 (Int.tdiv x10 8)))) (IntKind.u64.wrap (Int.tmod x10 8))) 1) == 1))) else (wherrylaw20_FrameSpoils.j2 k x0 x2 x7 x8 x9 x10 ((Go.bits .and .u8 (shr .u8 (Go.bits .xor .u8 (rd x0 (wrap64 (Int.tdiv x10 8))) (rd x7 (wrap64 (Int.tdiv x10 8)))) (IntKind.u64.wrap (Int.tmod x10 8))) 1) == 1) false)))) else (if x10 = x9 then (wherrylaw20_FrameSpoils.j2 k x0 x2 x7 x8 x9 x10 ((Go.bits .and .u8 (shr .u8 (Go.bits .xor .u8 (rd x0 (wrap64 (Int.tdiv x10 8))) (rd x7 (wrap64 (Int.tdiv x10 8)))) (IntKind.u64.wrap (Int.tmod x10 8))) 1) == 1) (!((Go.bits .and .u8 (shr .u8 (Go.bits .xor .u8 (rd x0 (wrap64 (Int.tdiv x10 8))) (rd x7 (wrap64 (Int.tdiv x10 8)))) (IntKind.u64.wrap (Int.tmod x10 8))) 1) == 1))) else (wherrylaw20_FrameSpoils.j2 k x0 x2 x7 x8 x9 x10 ((Go.bits .and .u8 (shr .u8 (Go.bits .xor .u8 (rd x0 (wrap64 (Int.tdiv x10 8))) (rd x7 (wrap64 (Int.tdiv x10 8)))) (IntKind.u64.wrap (Int.tmod x10 8))) 1) == 1) false))) else (none)) else (none)) else (none)) else (none)) else ((wherrylaw20_wakes.f k).bind fun t192 => (some t192))
def wherrylaw20_FrameSpoils.j2 : Nat → List Int → Int → List Int → Int → Int → Int → Bool → Bool → Option (Bool)
 | 0, _, _, _, _, _, _, _, _ => none
 | k + 1, x0, x2, x7, x8, x9, x10, x11, x81 => if x81 = true then (some false) else (if x10 > x9 then (if x10 < (wrap64 (x9 + 16)) then (if 0 ≤ (IntKind.u64.wrap (wrap64 (x10 - x9))) then (if (x11 != ((Go.bits .and .i64 (shr .i64 (Int.tmod (wrap64 ((Int.tmod x2 65536) + 65536)) 65536) (IntKind.u64.wrap (wrap64 (x10 - x9)))) 1) == 1)) = true then (some false) else (wherrylaw20_FrameSpoils.l0 k x0 x2 x7 x8 x9 (wrap64 (x10 + 1)))) else (none)) else (wherrylaw20_FrameSpoils.l0 k x0 x2 x7 x8 x9 (wrap64 (x10 + 1)))) else (wherrylaw20_FrameSpoils.l0 k x0 x2 x7 x8 x9 (wrap64 (x10 + 1))))
end
def wherrylaw20_FrameSpoils.f (k : Nat) (l0 : List Int) (a1 : Int) (a2 : Int) : Option (Bool) := if (l0.length : Int) > 300 then (some true) else ((frame_Spoil.f k l0 a1 a2).bind fun t188 => (if (t188.length : Int) = (l0.length : Int) then (if (l0.length : Int) = 0 then ((wherrylaw20_wakes.f k).bind fun t191 => (some t191)) else (if (wrap64 (8 * (l0.length : Int))) = 0 then (none) else (if (Int.tmod a1 (wrap64 (8 * (l0.length : Int)))) < 0 then (wherrylaw20_FrameSpoils.j0 k l0 a2 t188 (wrap64 (8 * (l0.length : Int))) (wrap64 ((Int.tmod a1 (wrap64 (8 * (l0.length : Int)))) + (wrap64 (8 * (l0.length : Int)))))) else (wherrylaw20_FrameSpoils.j0 k l0 a2 t188 (wrap64 (8 * (l0.length : Int))) (Int.tmod a1 (wrap64 (8 * (l0.length : Int)))))))) else (some false)))
theorem wherrylaw20_FrameSpoils.mono_l : ∀ k, (∀ y0 y1 y2 y3 y4, LeO (wherrylaw20_FrameSpoils.j0 k y0 y1 y2 y3 y4) (wherrylaw20_FrameSpoils.j0 (k + 1) y0 y1 y2 y3 y4)) ∧ (∀ y0 y1 y2 y3 y4 y5, LeO (wherrylaw20_FrameSpoils.l0 k y0 y1 y2 y3 y4 y5) (wherrylaw20_FrameSpoils.l0 (k + 1) y0 y1 y2 y3 y4 y5)) ∧ (∀ y0 y1 y2 y3 y4 y5 y6 y7, LeO (wherrylaw20_FrameSpoils.j2 k y0 y1 y2 y3 y4 y5 y6 y7) (wherrylaw20_FrameSpoils.j2 (k + 1) y0 y1 y2 y3 y4 y5 y6 y7))
 | 0 => ⟨fun _ _ _ _ _ r h => by simp [wherrylaw20_FrameSpoils.j0] at h, fun _ _ _ _ _ _ r h => by simp [wherrylaw20_FrameSpoils.l0] at h, fun _ _ _ _ _ _ _ _ r h => by simp [wherrylaw20_FrameSpoils.j2] at h⟩
 | k + 1 => by
  obtain ⟨ih0, ih1, ih2⟩ := wherrylaw20_FrameSpoils.mono_l k
  refine ⟨?_, ?_, ?_⟩
  ·intro y0 y1 y2 y3 y4
   unfold wherrylaw20_FrameSpoils.j0
   repeat' first
   | (with_reducible exact ih0 _ _ _ _ _)
   | (with_reducible exact ih1 _ _ _ _ _ _)
   | (with_reducible exact ih2 _ _ _ _ _ _ _ _)
   | (with_reducible exact frame_Spoil.mono _ _ _ _)
   | (with_reducible exact wherrylaw20_wakes.mono _)
   | (with_reducible exact LeO.refl _)
   | (with_reducible exact LeO.none _)
   | (with_reducible refine LeO.ite ?_ ?_)
   | (with_reducible refine LeO.bind ?_ (fun _ => ?_))
   | exact ih0 _ _ _ _ _
   | exact ih1 _ _ _ _ _ _
   | exact ih2 _ _ _ _ _ _ _ _
   | exact frame_Spoil.mono _ _ _ _
   | exact wherrylaw20_wakes.mono _
   | exact LeO.none _
   | refine LeO.ite ?_ ?_
   | refine LeO.bind ?_ (fun _ => ?_)
  ·intro y0 y1 y2 y3 y4 y5
   unfold wherrylaw20_FrameSpoils.l0
   repeat' first
   | (with_reducible exact ih0 _ _ _ _ _)
   | (with_reducible exact ih1 _ _ _ _ _ _)
   | (with_reducible exact ih2 _ _ _ _ _ _ _ _)
   | (with_reducible exact frame_Spoil.mono _ _ _ _)
   | (with_reducible exact wherrylaw20_wakes.mono _)
   | (with_reducible exact LeO.refl _)
   | (with_reducible exact LeO.none _)
   | (with_reducible refine LeO.ite ?_ ?_)
   | (with_reducible refine LeO.bind ?_ (fun _ => ?_))
   | exact ih0 _ _ _ _ _
   | exact ih1 _ _ _ _ _ _
   | exact ih2 _ _ _ _ _ _ _ _
   | exact frame_Spoil.mono _ _ _ _
   | exact wherrylaw20_wakes.mono _
   | exact LeO.none _
   | refine LeO.ite ?_ ?_
   | refine LeO.bind ?_ (fun _ => ?_)
  ·intro y0 y1 y2 y3 y4 y5 y6 y7
   unfold wherrylaw20_FrameSpoils.j2
   repeat' first
   | (with_reducible exact ih0 _ _ _ _ _)
   | (with_reducible exact ih1 _ _ _ _ _ _)
   | (with_reducible exact ih2 _ _ _ _ _ _ _ _)
   | (with_reducible exact frame_Spoil.mono _ _ _ _)
   | (with_reducible exact wherrylaw20_wakes.mono _)
   | (with_reducible exact LeO.refl _)
   | (with_reducible exact LeO.none _)
   | (with_reducible refine LeO.ite ?_ ?_)
   | (with_reducible refine LeO.bind ?_ (fun _ => ?_))
   | exact ih0 _ _ _ _ _
   | exact ih1 _ _ _ _ _ _
   | exact ih2 _ _ _ _ _ _ _ _
   | exact frame_Spoil.mono _ _ _ _
   | exact wherrylaw20_wakes.mono _
   | exact LeO.none _
   | refine LeO.ite ?_ ?_
   | refine LeO.bind ?_ (fun _ => ?_)
theorem wherrylaw20_FrameSpoils.mono : ∀ a0 a1 a2 k, LeO (wherrylaw20_FrameSpoils.f k a0 a1 a2) (wherrylaw20_FrameSpoils.f (k + 1) a0 a1 a2) := by
 intro a0 a1 a2 k
 obtain ⟨ih0, ih1, ih2⟩ := wherrylaw20_FrameSpoils.mono_l k
 unfold wherrylaw20_FrameSpoils.f
 repeat' first
   | (with_reducible exact ih0 _ _ _ _ _)
   | (with_reducible exact ih1 _ _ _ _ _ _)
   | (with_reducible exact ih2 _ _ _ _ _ _ _ _)
   | (with_reducible exact frame_Spoil.mono _ _ _ _)
   | (with_reducible exact wherrylaw20_wakes.mono _)
   | (with_reducible exact LeO.refl _)
   | (with_reducible exact LeO.none _)
   | (with_reducible refine LeO.ite ?_ ?_)
   | (with_reducible refine LeO.bind ?_ (fun _ => ?_))
   | exact ih0 _ _ _ _ _
   | exact ih1 _ _ _ _ _ _
   | exact ih2 _ _ _ _ _ _ _ _
   | exact frame_Spoil.mono _ _ _ _
   | exact wherrylaw20_wakes.mono _
   | exact LeO.none _
   | refine LeO.ite ?_ ?_
   | refine LeO.bind ?_ (fun _ => ?_)
set_option maxHeartbeats 8000000 in
set_option maxRecDepth 100000 in
theorem wherrylaw20_FrameSpoils.calls (k : Nat) (A0 : Option Addr) (c0 : Nat) (l0 : List Int) (a1 : Int) (a2 : Int) (r : Bool) (w : World) (hr0 : Kd.C (Kd.int .u8) w A0 l0.length l0) (hc0 : l0.length ≤ c0) (h : wherrylaw20_FrameSpoils.f k l0 a1 a2 = some r) :
  Calls Try.prog 9 #[.slice A0 l0.length c0, .int .i64 a1, .int .i64 a2] w fun e w' => e = .returned (.bool r) ∧ Below w.heap.size w w' := by
 have HR0 := Aside0.mk hr0
 have HC0 := Aside0.mk hc0
 clear hr0 hc0
 have HB := Aside0.mk (Below.refl w.heap.size w)
 have H : (if (l0.length : Int) > 300 then (some true) else ((frame_Spoil.f k l0 a1 a2).bind fun t188 => (if (t188.length : Int) = (l0.length : Int) then (if (l0.length : Int) = 0 then ((wherrylaw20_wakes.f k).bind fun t191 => (some t191)) else (if (wrap64 (8 * (l0.length : Int))) = 0 then (none) else (if (Int.tmod a1 (wrap64 (8 * (l0.length : Int)))) < 0 then (wherrylaw20_FrameSpoils.j0 k l0 a2 t188 (wrap64 (8 * (l0.length : Int))) (wrap64 ((Int.tmod a1 (wrap64 (8 * (l0.length : Int)))) + (wrap64 (8 * (l0.length : Int)))))) else (wherrylaw20_FrameSpoils.j0 k l0 a2 t188 (wrap64 (8 * (l0.length : Int))) (Int.tmod a1 (wrap64 (8 * (l0.length : Int)))))))) else (some false)))) = some r := h
 clear h
 by_cases c4 : (l0.length : Int) > 300
 ·rw [if_pos c4] at H
  have c4b0 : decide (300 < (l0.length : Int)) = true := decide_eq_true c4
  have c4b1 : decide (300 < l0.length) = true := decide_eq_true (by omega)
  clear c4
  obtain rfl := Option.some.inj H
  go_enter Try.func9, Try.ntmps9
  go_wp2
  repeat (go_quiet (fail); try go_wp2)
  go_ret
  exact ⟨by first | rfl | (simp [errW_none, errW_some] <;> rfl) | (simp [*, errW_none, errW_some] <;> rfl), by first | with_reducible exact HB.out | exact sB HB.out⟩
 ·rw [if_neg c4] at H
  have c4b0 : decide (300 < (l0.length : Int)) = false := decide_eq_false c4
  have c4b1 : decide (300 < l0.length) = false := decide_eq_false (by omega)
  clear c4
  replace H := Option.bind_eq_some_iff.mp H
  obtain ⟨t188, A50, H⟩ := H
  replace H : (if (t188.length : Int) = (l0.length : Int) then (if (l0.length : Int) = 0 then ((wherrylaw20_wakes.f k).bind fun t191 => (some t191)) else (if (wrap64 (8 * (l0.length : Int))) = 0 then (none) else (if (Int.tmod a1 (wrap64 (8 * (l0.length : Int)))) < 0 then (wherrylaw20_FrameSpoils.j0 k l0 a2 t188 (wrap64 (8 * (l0.length : Int))) (wrap64 ((Int.tmod a1 (wrap64 (8 * (l0.length : Int)))) + (wrap64 (8 * (l0.length : Int)))))) else (wherrylaw20_FrameSpoils.j0 k l0 a2 t188 (wrap64 (8 * (l0.length : Int))) (Int.tmod a1 (wrap64 (8 * (l0.length : Int)))))))) else (some false)) = some r := H
  have A5 := Aside0.mk A50
  clear A50
  by_cases c6 : (t188.length : Int) = (l0.length : Int)
  ·rw [if_pos c6] at H
   have c6b0 : ((t188.length : Int) == (l0.length : Int)) = true := beq_iff_eq.mpr c6
   have c6b1 : ((t188.length : Int) != (l0.length : Int)) = false := bne_eq_false_iff_eq.mpr c6
   have c6b2 : (t188.length == l0.length) = true := by first | simpa using c6 | (simp at c6 ⊢; omega)
   clear c6
   by_cases c7 : (l0.length : Int) = 0
   ·rw [if_pos c7] at H
    have c7b0 : ((l0.length : Int) == 0) = true := beq_iff_eq.mpr c7
    have c7b1 : ((l0.length : Int) != 0) = false := bne_eq_false_iff_eq.mpr c7
    clear c7
    replace H := Option.bind_eq_some_iff.mp H
    obtain ⟨t191, A80, H⟩ := H
    replace H : (some t191) = some r := H
    have A8 := Aside0.mk A80
    clear A80
    obtain rfl := Option.some.inj H
    go_enter Try.func9, Try.ntmps9
    go_wp2_with (first | (go_at_call 21; (with_reducible refine (frame_Spoil.calls k _ _ l0 a1 a2 t188 _ ?side1 ?side2 A5.out).mono ?_); (case side1 => first | with_reducible exact HR0.out | exact sC (HR0.out)); (case side2 => exact HC0.out); rintro e w9 ⟨v189, rfl, ho0, hb⟩; have n0_ := Aside0.mk (Kd.R_lower ho0 (below_size (by first | with_reducible exact HB.out | exact sB HB.out))); have n1_ := Aside0.mk (below_step (by first | with_reducible exact HB.out | exact sB HB.out) hb); clear HB; have HO190 := n0_; have HB := n1_; clear n0_ n1_; (try clear hb); (try clear hb2); (try clear hk); (try clear hi); (try clear ho0); obtain ⟨Ao10, co10, eo10⟩ := Kd.R_slice HO190.out; subst eo10) | (go_at_call 14; (with_reducible refine (wherrylaw20_wakes.calls k  t191 _ A8.out).mono ?_); rintro e w11 ⟨rfl, hb⟩; have n0_ := Aside0.mk (bR HO190.out hb); have n1_ := Aside0.mk (below_step (by first | with_reducible exact HB.out | exact sB HB.out) hb); clear HO190; clear HB; have HO190 := n0_; have HB := n1_; clear n0_ n1_; (try clear hb); (try clear hb2); (try clear hk); (try clear hi)))
    repeat (go_quiet (first | (go_at_call 21; (with_reducible refine (frame_Spoil.calls k _ _ l0 a1 a2 t188 _ ?side1 ?side2 A5.out).mono ?_); (case side1 => first | with_reducible exact HR0.out | exact sC (HR0.out)); (case side2 => exact HC0.out); rintro e w9 ⟨v189, rfl, ho0, hb⟩; have n0_ := Aside0.mk (Kd.R_lower ho0 (below_size (by first | with_reducible exact HB.out | exact sB HB.out))); have n1_ := Aside0.mk (below_step (by first | with_reducible exact HB.out | exact sB HB.out) hb); clear HB; have HO190 := n0_; have HB := n1_; clear n0_ n1_; (try clear hb); (try clear hb2); (try clear hk); (try clear hi); (try clear ho0); obtain ⟨Ao10, co10, eo10⟩ := Kd.R_slice HO190.out; subst eo10) | (go_at_call 14; (with_reducible refine (wherrylaw20_wakes.calls k  t191 _ A8.out).mono ?_); rintro e w11 ⟨rfl, hb⟩; have n0_ := Aside0.mk (bR HO190.out hb); have n1_ := Aside0.mk (below_step (by first | with_reducible exact HB.out | exact sB HB.out) hb); clear HO190; clear HB; have HO190 := n0_; have HB := n1_; clear n0_ n1_; (try clear hb); (try clear hb2); (try clear hk); (try clear hi))); try go_wp2_with (first | (go_at_call 21; (with_reducible refine (frame_Spoil.calls k _ _ l0 a1 a2 t188 _ ?side1 ?side2 A5.out).mono ?_); (case side1 => first | with_reducible exact HR0.out | exact sC (HR0.out)); (case side2 => exact HC0.out); rintro e w9 ⟨v189, rfl, ho0, hb⟩; have n0_ := Aside0.mk (Kd.R_lower ho0 (below_size (by first | with_reducible exact HB.out | exact sB HB.out))); have n1_ := Aside0.mk (below_step (by first | with_reducible exact HB.out | exact sB HB.out) hb); clear HB; have HO190 := n0_; have HB := n1_; clear n0_ n1_; (try clear hb); (try clear hb2); (try clear hk); (try clear hi); (try clear ho0); obtain ⟨Ao10, co10, eo10⟩ := Kd.R_slice HO190.out; subst eo10) | (go_at_call 14; (with_reducible refine (wherrylaw20_wakes.calls k  t191 _ A8.out).mono ?_); rintro e w11 ⟨rfl, hb⟩; have n0_ := Aside0.mk (bR HO190.out hb); have n1_ := Aside0.mk (below_step (by first | with_reducible exact HB.out | exact sB HB.out) hb); clear HO190; clear HB; have HO190 := n0_; have HB := n1_; clear n0_ n1_; (try clear hb); (try clear hb2); (try clear hk); (try clear hi))))
    go_ret
    exact ⟨by first | rfl | (simp [errW_none, errW_some] <;> rfl) | (simp [*, errW_none, errW_some] <;> rfl), by first | with_reducible exact HB.out | exact sB HB.out⟩
   ·rw [if_neg c7] at H
    have c7b0 : ((l0.length : Int) == 0) = false := beq_eq_false_iff_ne.mpr c7
    have c7b1 : ((l0.length : Int) != 0) = true := bne_iff_ne.mpr c7
    have c7b2 : ¬ (l0 = []) := fun h_ => c7 (by rw [h_]; rfl)
    by_cases c12 : (wrap64 (8 * (l0.length : Int))) = 0
    ·rw [if_pos c12] at H
     exact absurd H (by simp)
    ·rw [if_neg c12] at H
     have c12b0 : ((wrap64 (8 * (l0.length : Int))) == 0) = false := beq_eq_false_iff_ne.mpr c12
     have c12b1 : ((wrap64 (8 * (l0.length : Int))) != 0) = true := bne_iff_ne.mpr c12
     have HC13 := Aside0.mk H
     clear H
     go_enter Try.func9, Try.ntmps9
     go_upto_if 35 with (first | (go_at_call 21; (with_reducible refine (frame_Spoil.calls k _ _ l0 a1 a2 t188 _ ?side1 ?side2 A5.out).mono ?_); (case side1 => first | with_reducible exact HR0.out | exact sC (HR0.out)); (case side2 => exact HC0.out); rintro e w14 ⟨v189, rfl, ho0, hb⟩; have n0_ := Aside0.mk (Kd.R_lower ho0 (below_size (by first | with_reducible exact HB.out | exact sB HB.out))); have n1_ := Aside0.mk (below_step (by first | with_reducible exact HB.out | exact sB HB.out) hb); clear HB; have HO190 := n0_; have HB := n1_; clear n0_ n1_; (try clear hb); (try clear hb2); (try clear hk); (try clear hi); (try clear ho0); obtain ⟨Ao15, co15, eo15⟩ := Kd.R_slice HO190.out; subst eo15))
     repeat (go_quiet (first | (go_at_call 21; (with_reducible refine (frame_Spoil.calls k _ _ l0 a1 a2 t188 _ ?side1 ?side2 A5.out).mono ?_); (case side1 => first | with_reducible exact HR0.out | exact sC (HR0.out)); (case side2 => exact HC0.out); rintro e w14 ⟨v189, rfl, ho0, hb⟩; have n0_ := Aside0.mk (Kd.R_lower ho0 (below_size (by first | with_reducible exact HB.out | exact sB HB.out))); have n1_ := Aside0.mk (below_step (by first | with_reducible exact HB.out | exact sB HB.out) hb); clear HB; have HO190 := n0_; have HB := n1_; clear n0_ n1_; (try clear hb); (try clear hb2); (try clear hk); (try clear hi); (try clear ho0); obtain ⟨Ao15, co15, eo15⟩ := Kd.R_slice HO190.out; subst eo15)); go_upto_if 35 with (first | (go_at_call 21; (with_reducible refine (frame_Spoil.calls k _ _ l0 a1 a2 t188 _ ?side1 ?side2 A5.out).mono ?_); (case side1 => first | with_reducible exact HR0.out | exact sC (HR0.out)); (case side2 => exact HC0.out); rintro e w14 ⟨v189, rfl, ho0, hb⟩; have n0_ := Aside0.mk (Kd.R_lower ho0 (below_size (by first | with_reducible exact HB.out | exact sB HB.out))); have n1_ := Aside0.mk (below_step (by first | with_reducible exact HB.out | exact sB HB.out) hb); clear HB; have HO190 := n0_; have HB := n1_; clear n0_ n1_; (try clear hb); (try clear hb2); (try clear hk); (try clear hi); (try clear ho0); obtain ⟨Ao15, co15, eo15⟩ := Kd.R_slice HO190.out; subst eo15)))
     (try simp only [Act.put, List.setIfInBounds_toArray, List.set_cons_zero, List.set_cons_succ])
     go_cut [9] (fun v9 wc => ∃ (kq : Nat) (x9_12 : Int), v9 = .int .i64 x9_12 ∧ Aside0 (wherrylaw20_FrameSpoils.j0 kq l0 a2 t188 (wrap64 (8 * (l0.length : Int))) x9_12 = some r) ∧ Aside0 (kq ≤ k) ∧ Aside0 (Kd.R (Kd.int .u8) 5 wc w.heap.size (fun _ => True) (.slice Ao15 t188.length co15) t188) ∧ Aside0 (Below w.heap.size w wc))
     case first =>
      have H := HC13.out
      clear HC13
      by_cases c16 : (Int.tmod a1 (wrap64 (8 * (l0.length : Int)))) < 0
      ·rw [if_pos c16] at H
       have c16b0 : decide ((Int.tmod a1 (wrap64 (8 * (l0.length : Int)))) < 0) = true := decide_eq_true c16
       clear c16
       (first | rw [c16b0] | (simp only [i64_w, i32_w]; rw [c16b0]) | skip)
       have H' := Aside0.mk H
       clear H
       go_wp2
       repeat (go_quiet (fail); try go_wp2)
       go_meet
       case rel => exact ⟨_, (wrap64 ((Int.tmod a1 (wrap64 (8 * (l0.length : Int)))) + (wrap64 (8 * (l0.length : Int))))), (by first | rfl | (simp; done) | (simp [*]; done)), H', ⟨by first | omega | exact Nat.le_refl _⟩, ⟨by first | with_reducible exact HO190.out | exact sR HO190.out⟩, ⟨by first | with_reducible exact HB.out | exact sB HB.out⟩⟩
      ·rw [if_neg c16] at H
       have c16b0 : decide ((Int.tmod a1 (wrap64 (8 * (l0.length : Int)))) < 0) = false := decide_eq_false c16
       clear c16
       (first | rw [c16b0] | (simp only [i64_w, i32_w]; rw [c16b0]) | skip)
       have H' := Aside0.mk H
       clear H
       go_wp2
       repeat (go_quiet (fail); try go_wp2)
       go_meet
       case rel => exact ⟨_, (Int.tmod a1 (wrap64 (8 * (l0.length : Int)))), (by first | rfl | (simp; done) | (simp [*]; done)), H', ⟨by first | omega | exact Nat.le_refl _⟩, ⟨by first | with_reducible exact HO190.out | exact sR HO190.out⟩, ⟨by first | with_reducible exact HB.out | exact sB HB.out⟩⟩
     case rest =>
      clear HC13
      try clear c1
      try clear p2
      try clear c4
      try clear c4b0
      try clear c4b1
      try clear c6
      try clear c6b0
      try clear c6b1
      try clear c6b2
      try clear p6
      try clear c7
      try clear c7b0
      try clear c7b1
      try clear c7b2
      try clear c9
      try clear c12
      try clear c12b0
      try clear c12b1
      try clear c16
      try clear c16b0
      obtain ⟨kq, x9_12, rfl, HA, HJ12, HO_7, HB⟩ := hcut
      cases kq with
      | zero => exact absurd HA.out (by simp [wherrylaw20_FrameSpoils.j0])
      | succ kj12 =>
       have H := HA.out
       clear HA
       simp only [wherrylaw20_FrameSpoils.j0] at H
       have H' := Aside0.mk H
       clear H
       go_wp2
       repeat (go_quiet (fail); try go_wp2)
       go_loopg [10] kj12 (fun kq v10 w' => ∃ (x10_2 : Int), v10 = .int .i64 x10_2 ∧ Aside0 (wherrylaw20_FrameSpoils.l0 kq l0 a2 t188 (wrap64 (8 * (l0.length : Int))) x9_12 x10_2 = some r) ∧ Aside0 (kq ≤ kj12) ∧ Aside0 (Kd.R (Kd.int .u8) 5 w' w.heap.size (fun _ => True) (.slice Ao15 t188.length co15) t188) ∧ Aside0 (Below w.heap.size w w'))
       case atStart => exact ⟨(0), (by first | rfl | (simp; done) | (simp [*]; done)), H', ⟨Nat.le_refl _⟩, ⟨by first | with_reducible exact HO_7.out | exact sR HO_7.out⟩, ⟨by first | with_reducible exact HB.out | exact sB HB.out⟩⟩
       case round =>
        clear H'
        try clear c1
        try clear p2
        try clear c4
        try clear c4b0
        try clear c4b1
        try clear c6
        try clear c6b0
        try clear c6b1
        try clear c6b2
        try clear p6
        try clear c7
        try clear c7b0
        try clear c7b1
        try clear c7b2
        try clear c9
        try clear c12
        try clear c12b0
        try clear c12b1
        try clear c16
        try clear c16b0
        try clear p2
        try clear p6
        obtain ⟨x10_2, rfl, HA, HK2, HO_7, HB⟩ := hrel
        cases gk with
        | zero => exact absurd HA.out (by simp [wherrylaw20_FrameSpoils.l0])
        | succ k2 =>
         have H := HA.out
         clear HA
         simp only [wherrylaw20_FrameSpoils.l0] at H
         by_cases c17 : x10_2 < (wrap64 (8 * (l0.length : Int)))
         ·rw [if_pos c17] at H
          have c17b0 : decide (x10_2 < (wrap64 (8 * (l0.length : Int)))) = true := decide_eq_true c17
          clear c17
          obtain ⟨ji18, hji18⟩ : ∃ j_ : Int, (wrap64 (Int.tdiv x10_2 8)) = j_ := ⟨_, rfl⟩
          replace H : (if 0 ≤ (ji18) then (if (ji18) < (l0.length : Int) then (if (ji18) < (t188.length : Int) then (if 0 ≤ (IntKind.u64.wrap (Int.tmod x10_2 8)) then (if (Go.bits .and .u8 (shr .u8 (Go.bits .xor .u8 (rd l0 (ji18)) (rd t188 (ji18))) (IntKind.u64.wrap (Int.tmod x10_2 8))) 1) = 1 then (if x10_2 < x9_12 then (wherrylaw20_FrameSpoils.j2 k2 l0 a2 t188 (wrap64 (8 * (l0.length : Int))) x9_12 x10_2 ((Go.bits .and .u8 (shr .u8 (Go.bits .xor .u8 (rd l0 (ji18)) (rd t188 (ji18))) (IntKind.u64.wrap (Int.tmod x10_2 8))) 1) == 1) true) else (if x10_2 ≥ (wrap64 (x9_12 + 16)) then (wherrylaw20_FrameSpoils.j2 k2 l0 a2 t188 (wrap64 (8 * (l0.length : Int))) x9_12 x10_2 ((Go.bits .and .u8 (shr .u8 (Go.bits .xor .u8 (rd l0 (ji18)) (rd t188 (ji18))) (IntKind.u64.wrap (Int.tmod x10_2 8))) 1) == 1) true) else (if x10_2 = x9_12 then (wherrylaw20_FrameSpoils.j2 k2 l0 a2 t188 (wrap64 (8 * (l0.length : Int))) x9_12 x10_2 ((Go.bits .and .u8 (shr .u8 (Go.bits .xor .u8 (rd l0 (ji18)) (rd t188 (ji18))) (IntKind.u64.wrap (Int.tmod x10_2 8))) 1) == 1) (!((Go.bits .and .u8 (shr .u8 (Go.bits .xor .u8 (rd l0 (ji18)) (rd t188 (ji18))) (IntKind.u64.wrap (Int.tmod x10_2 8))) 1) == 1))) else (wherrylaw20_FrameSpoils.j2 k2 l0 a2 t188 (wrap64 (8 * (l0.length : Int))) x9_12 x10_2 ((Go.bits .and .u8 (shr .u8 (Go.bits .xor .u8 (rd l0 (ji18)) (rd t188 (ji18))) (IntKind.u64.wrap (Int.tmod x10_2 8))) 1) == 1) false)))) else (if x10_2 = x9_12 then (wherrylaw20_FrameSpoils.j2 k2 l0 a2 t188 (wrap64 (8 * (l0.length : Int))) x9_12 x10_2 ((Go.bits .and .u8 (shr .u8 (Go.bits .xor .u8 (rd l0 (ji18)) (rd t188 (ji18))) (IntKind.u64.wrap (Int.tmod x10_2 8))) 1) == 1) (!((Go.bits .and .u8 (shr .u8 (Go.bits .xor .u8 (rd l0 (ji18)) (rd t188 (ji18))) (IntKind.u64.wrap (Int.tmod x10_2 8))) 1) == 1))) else (wherrylaw20_FrameSpoils.j2 k2 l0 a2 t188 (wrap64 (8 * (l0.length : Int))) x9_12 x10_2 ((Go.bits .and .u8 (shr .u8 (Go.bits .xor .u8 (rd l0 (ji18)) (rd t188 (ji18))) (IntKind.u64.wrap (Int.tmod x10_2 8))) 1) == 1) false))) else (none)) else (none)) else (none)) else (none)) = some r := by first | (rw [hji18] at H; exact H) | (simp only [hji18] at H ⊢; exact H)
          have hji18w : (IntKind.i64.wrap (Int.tdiv x10_2 8)) = ji18 := (i64_w _).trans hji18
          by_cases c19 : 0 ≤ (ji18)
          ·rw [if_pos c19] at H
           have c19b0 : decide (0 ≤ (ji18)) = true := decide_eq_true c19
           clear c19
           by_cases c20 : (ji18) < (l0.length : Int)
           ·rw [if_pos c20] at H
            have c20b0 : decide ((ji18) < (l0.length : Int)) = true := decide_eq_true c20
            clear c20
            by_cases c21 : (ji18) < (t188.length : Int)
            ·rw [if_pos c21] at H
             have c21b0 : decide ((ji18) < (t188.length : Int)) = true := decide_eq_true c21
             clear c21
             obtain ⟨ji22, hji22⟩ : ∃ j_ : Int, (IntKind.u64.wrap (Int.tmod x10_2 8)) = j_ := ⟨_, rfl⟩
             replace H : (if 0 ≤ (ji22) then (if (Go.bits .and .u8 (shr .u8 (Go.bits .xor .u8 (rd l0 (ji18)) (rd t188 (ji18))) (ji22)) 1) = 1 then (if x10_2 < x9_12 then (wherrylaw20_FrameSpoils.j2 k2 l0 a2 t188 (wrap64 (8 * (l0.length : Int))) x9_12 x10_2 ((Go.bits .and .u8 (shr .u8 (Go.bits .xor .u8 (rd l0 (ji18)) (rd t188 (ji18))) (ji22)) 1) == 1) true) else (if x10_2 ≥ (wrap64 (x9_12 + 16)) then (wherrylaw20_FrameSpoils.j2 k2 l0 a2 t188 (wrap64 (8 * (l0.length : Int))) x9_12 x10_2 ((Go.bits .and .u8 (shr .u8 (Go.bits .xor .u8 (rd l0 (ji18)) (rd t188 (ji18))) (ji22)) 1) == 1) true) else (if x10_2 = x9_12 then (wherrylaw20_FrameSpoils.j2 k2 l0 a2 t188 (wrap64 (8 * (l0.length : Int))) x9_12 x10_2 ((Go.bits .and .u8 (shr .u8 (Go.bits .xor .u8 (rd l0 (ji18)) (rd t188 (ji18))) (ji22)) 1) == 1) (!((Go.bits .and .u8 (shr .u8 (Go.bits .xor .u8 (rd l0 (ji18)) (rd t188 (ji18))) (ji22)) 1) == 1))) else (wherrylaw20_FrameSpoils.j2 k2 l0 a2 t188 (wrap64 (8 * (l0.length : Int))) x9_12 x10_2 ((Go.bits .and .u8 (shr .u8 (Go.bits .xor .u8 (rd l0 (ji18)) (rd t188 (ji18))) (ji22)) 1) == 1) false)))) else (if x10_2 = x9_12 then (wherrylaw20_FrameSpoils.j2 k2 l0 a2 t188 (wrap64 (8 * (l0.length : Int))) x9_12 x10_2 ((Go.bits .and .u8 (shr .u8 (Go.bits .xor .u8 (rd l0 (ji18)) (rd t188 (ji18))) (ji22)) 1) == 1) (!((Go.bits .and .u8 (shr .u8 (Go.bits .xor .u8 (rd l0 (ji18)) (rd t188 (ji18))) (ji22)) 1) == 1))) else (wherrylaw20_FrameSpoils.j2 k2 l0 a2 t188 (wrap64 (8 * (l0.length : Int))) x9_12 x10_2 ((Go.bits .and .u8 (shr .u8 (Go.bits .xor .u8 (rd l0 (ji18)) (rd t188 (ji18))) (ji22)) 1) == 1) false))) else (none)) = some r := by first | (rw [hji22] at H; exact H) | (simp only [hji22] at H ⊢; exact H)
             by_cases c23 : 0 ≤ (ji22)
             ·rw [if_pos c23] at H
              have c23b0 := eq_true c23
              have c23b1 : decide (0 ≤ (ji22)) = true := decide_eq_true c23
              clear c23
              obtain ⟨ji24, hji24⟩ : ∃ j_ : Int, (shr .u8 (Go.bits .xor .u8 (rd l0 (ji18)) (rd t188 (ji18))) (ji22)) = j_ := ⟨_, rfl⟩
              replace H : (if (Go.bits .and .u8 (ji24) 1) = 1 then (if x10_2 < x9_12 then (wherrylaw20_FrameSpoils.j2 k2 l0 a2 t188 (wrap64 (8 * (l0.length : Int))) x9_12 x10_2 ((Go.bits .and .u8 (ji24) 1) == 1) true) else (if x10_2 ≥ (wrap64 (x9_12 + 16)) then (wherrylaw20_FrameSpoils.j2 k2 l0 a2 t188 (wrap64 (8 * (l0.length : Int))) x9_12 x10_2 ((Go.bits .and .u8 (ji24) 1) == 1) true) else (if x10_2 = x9_12 then (wherrylaw20_FrameSpoils.j2 k2 l0 a2 t188 (wrap64 (8 * (l0.length : Int))) x9_12 x10_2 ((Go.bits .and .u8 (ji24) 1) == 1) (!((Go.bits .and .u8 (ji24) 1) == 1))) else (wherrylaw20_FrameSpoils.j2 k2 l0 a2 t188 (wrap64 (8 * (l0.length : Int))) x9_12 x10_2 ((Go.bits .and .u8 (ji24) 1) == 1) false)))) else (if x10_2 = x9_12 then (wherrylaw20_FrameSpoils.j2 k2 l0 a2 t188 (wrap64 (8 * (l0.length : Int))) x9_12 x10_2 ((Go.bits .and .u8 (ji24) 1) == 1) (!((Go.bits .and .u8 (ji24) 1) == 1))) else (wherrylaw20_FrameSpoils.j2 k2 l0 a2 t188 (wrap64 (8 * (l0.length : Int))) x9_12 x10_2 ((Go.bits .and .u8 (ji24) 1) == 1) false))) = some r := by first | (rw [hji24] at H; exact H) | (simp only [hji24] at H ⊢; exact H)
              have hji24_ : ((Go.bits .xor .u8 (rd l0 (ji18)) (rd t188 (ji18))) / 2 ^ min (ji22).toNat 8) = ji24 := hji24
              have hji24z : (ji22) ≤ 8 → ((Go.bits .xor .u8 (rd l0 (ji18)) (rd t188 (ji18))) / 2 ^ (ji22).toNat) = ji24 := shr_small hji24
              have HC25 := Aside0.mk H
              clear H
              have p193 : 0 ≤ ((ji18) : Int) := of_decide_eq_true (by first | (with_reducible assumption) | assumption)
              have q193 : (ji18) < (l0.length : Int) := of_decide_eq_true (by first | (with_reducible assumption) | assumption)
              obtain ⟨ad193, e193, hx193_0⟩ := Kd.at_int HR0.out (ji18) p193 q193
              cases e193
              replace hx193_0 := (HB.out.cell (World.block_lt_of_cell? w _ hx193_0)).trans hx193_0
              replace p193 := eq_true p193
              replace q193 := eq_true q193
              have p194 : 0 ≤ ((ji18) : Int) := of_decide_eq_true (by first | (with_reducible assumption) | assumption)
              have q194 : (ji18) < (t188.length : Int) := of_decide_eq_true (by first | (with_reducible assumption) | assumption)
              obtain ⟨ad194, e194, hx194_0⟩ := Kd.at_int (Kd.R_reads' HO_7.out).2.2 (ji18) p194 q194
              cases e194
              replace p194 := eq_true p194
              replace q194 := eq_true q194
              go_upto_region 16 with (fail)
              repeat (go_quiet (fail); go_upto_region 16 with (fail))
              go_cut [11, 81] (fun v11 v81 wc => ∃ (kq : Nat) (x11_24 : Bool) (x81_24 : Bool), v11 = .bool x11_24 ∧ v81 = .bool x81_24 ∧ Aside0 (wherrylaw20_FrameSpoils.j2 kq l0 a2 t188 (wrap64 (8 * (l0.length : Int))) x9_12 x10_2 x11_24 x81_24 = some r) ∧ Aside0 (kq ≤ k2) ∧ Aside0 (Kd.R (Kd.int .u8) 5 wc w.heap.size (fun _ => True) (.slice (some ad194) t188.length co15) t188) ∧ Aside0 (Below w.heap.size w wc))
              case first =>
               have H := HC25.out
               clear HC25
               by_cases c26 : (Go.bits .and .u8 (ji24) 1) = 1
               ·rw [if_pos c26] at H
                have c26b0 : ((Go.bits .and .u8 (ji24) 1) == 1) = true := beq_iff_eq.mpr c26
                have c26b1 : ((Go.bits .and .u8 (ji24) 1) != 1) = false := bne_eq_false_iff_eq.mpr c26
                clear c26
                (first | rw [c26b0] | (simp only [i64_w, i32_w]; rw [c26b0]) | skip)
                by_cases c27 : x10_2 < x9_12
                ·rw [if_pos c27] at H
                 have c27b0 : decide (x10_2 < x9_12) = true := decide_eq_true c27
                 clear c27
                 have H' := Aside0.mk H
                 clear H
                 go_wp2
                 repeat (go_quiet (fail); try go_wp2)
                 go_meet
                 case rel => exact ⟨_, (((Go.bits .and .u8 (ji24) 1) == 1)), (true), (by first | rfl | (simp; done) | exact congrArg Value.bool (by first | assumption | (symm; assumption)) | (simp only [← hji24] <;> (first | rfl | simp); done) | (simp [*]; done)), (by first | rfl | (simp; done) | (simp [*]; done)), H', ⟨by have := HJ12.out; have := HK2.out; first | omega | exact Nat.le_refl _⟩, ⟨by first | with_reducible exact HO_7.out | exact sR HO_7.out⟩, ⟨by first | with_reducible exact HB.out | exact sB HB.out⟩⟩
                ·rw [if_neg c27] at H
                 have c27b0 : decide (x10_2 < x9_12) = false := decide_eq_false c27
                 clear c27
                 by_cases c28 : x10_2 ≥ (wrap64 (x9_12 + 16))
                 ·rw [if_pos c28] at H
                  have c28b0 : decide ((wrap64 (x9_12 + 16)) ≤ x10_2) = true := decide_eq_true c28
                  clear c28
                  have H' := Aside0.mk H
                  clear H
                  go_wp2
                  repeat (go_quiet (fail); try go_wp2)
                  go_meet
                  case rel => exact ⟨_, (((Go.bits .and .u8 (ji24) 1) == 1)), (true), (by first | rfl | (simp; done) | exact congrArg Value.bool (by first | assumption | (symm; assumption)) | (simp only [← hji24] <;> (first | rfl | simp); done) | (simp [*]; done)), (by first | rfl | (simp; done) | (simp [*]; done)), H', ⟨by have := HJ12.out; have := HK2.out; first | omega | exact Nat.le_refl _⟩, ⟨by first | with_reducible exact HO_7.out | exact sR HO_7.out⟩, ⟨by first | with_reducible exact HB.out | exact sB HB.out⟩⟩
                 ·rw [if_neg c28] at H
                  have c28b0 : decide ((wrap64 (x9_12 + 16)) ≤ x10_2) = false := decide_eq_false c28
                  clear c28
                  by_cases c29 : x10_2 = x9_12
                  ·rw [if_pos c29] at H
                   have c29b0 : (x10_2 == x9_12) = true := beq_iff_eq.mpr c29
                   have c29b1 : (x10_2 != x9_12) = false := bne_eq_false_iff_eq.mpr c29
                   clear c29
                   have H' := Aside0.mk H
                   clear H
                   go_wp2
                   repeat (go_quiet (fail); try go_wp2)
                   go_meet
                   case rel => exact ⟨_, (((Go.bits .and .u8 (ji24) 1) == 1)), (!((Go.bits .and .u8 (ji24) 1) == 1)), (by first | rfl | (simp; done) | exact congrArg Value.bool (by first | assumption | (symm; assumption)) | (simp only [← hji24] <;> (first | rfl | simp); done) | (simp [*]; done)), (by first | rfl | (simp; done) | exact congrArg Value.bool (by first | assumption | (symm; assumption)) | (simp only [← hji24] <;> (first | rfl | simp); done) | (simp [*]; done)), H', ⟨by have := HJ12.out; have := HK2.out; first | omega | exact Nat.le_refl _⟩, ⟨by first | with_reducible exact HO_7.out | exact sR HO_7.out⟩, ⟨by first | with_reducible exact HB.out | exact sB HB.out⟩⟩
                  ·rw [if_neg c29] at H
                   have c29b0 : (x10_2 == x9_12) = false := beq_eq_false_iff_ne.mpr c29
                   have c29b1 : (x10_2 != x9_12) = true := bne_iff_ne.mpr c29
                   have H' := Aside0.mk H
                   clear H
                   go_wp2
                   repeat (go_quiet (fail); try go_wp2)
                   go_meet
                   case rel => exact ⟨_, (((Go.bits .and .u8 (ji24) 1) == 1)), (false), (by first | rfl | (simp; done) | exact congrArg Value.bool (by first | assumption | (symm; assumption)) | (simp only [← hji24] <;> (first | rfl | simp); done) | (simp [*]; done)), (by first | rfl | (simp; done) | (simp [*]; done)), H', ⟨by have := HJ12.out; have := HK2.out; first | omega | exact Nat.le_refl _⟩, ⟨by first | with_reducible exact HO_7.out | exact sR HO_7.out⟩, ⟨by first | with_reducible exact HB.out | exact sB HB.out⟩⟩
               ·rw [if_neg c26] at H
                have c26b0 : ((Go.bits .and .u8 (ji24) 1) == 1) = false := beq_eq_false_iff_ne.mpr c26
                have c26b1 : ((Go.bits .and .u8 (ji24) 1) != 1) = true := bne_iff_ne.mpr c26
                (first | rw [c26b0] | (simp only [i64_w, i32_w]; rw [c26b0]) | skip)
                by_cases c30 : x10_2 = x9_12
                ·rw [if_pos c30] at H
                 have c30b0 : (x10_2 == x9_12) = true := beq_iff_eq.mpr c30
                 have c30b1 : (x10_2 != x9_12) = false := bne_eq_false_iff_eq.mpr c30
                 clear c30
                 have H' := Aside0.mk H
                 clear H
                 go_wp2
                 repeat (go_quiet (fail); try go_wp2)
                 go_meet
                 case rel => exact ⟨_, (((Go.bits .and .u8 (ji24) 1) == 1)), (!((Go.bits .and .u8 (ji24) 1) == 1)), (by first | rfl | (simp; done) | exact congrArg Value.bool (by first | assumption | (symm; assumption)) | (simp only [← hji24] <;> (first | rfl | simp); done) | (simp [*]; done)), (by first | rfl | (simp; done) | exact congrArg Value.bool (by first | assumption | (symm; assumption)) | (simp only [← hji24] <;> (first | rfl | simp); done) | (simp [*]; done)), H', ⟨by have := HJ12.out; have := HK2.out; first | omega | exact Nat.le_refl _⟩, ⟨by first | with_reducible exact HO_7.out | exact sR HO_7.out⟩, ⟨by first | with_reducible exact HB.out | exact sB HB.out⟩⟩
                ·rw [if_neg c30] at H
                 have c30b0 : (x10_2 == x9_12) = false := beq_eq_false_iff_ne.mpr c30
                 have c30b1 : (x10_2 != x9_12) = true := bne_iff_ne.mpr c30
                 have H' := Aside0.mk H
                 clear H
                 go_wp2
                 repeat (go_quiet (fail); try go_wp2)
                 go_meet
                 case rel => exact ⟨_, (((Go.bits .and .u8 (ji24) 1) == 1)), (false), (by first | rfl | (simp; done) | exact congrArg Value.bool (by first | assumption | (symm; assumption)) | (simp only [← hji24] <;> (first | rfl | simp); done) | (simp [*]; done)), (by first | rfl | (simp; done) | (simp [*]; done)), H', ⟨by have := HJ12.out; have := HK2.out; first | omega | exact Nat.le_refl _⟩, ⟨by first | with_reducible exact HO_7.out | exact sR HO_7.out⟩, ⟨by first | with_reducible exact HB.out | exact sB HB.out⟩⟩
              case rest =>
               clear HC25
               try clear c1
               try clear p1
               try clear q1
               try clear hx1
               try clear c2
               try clear p2
               try clear c3
               try clear c4
               try clear c4b0
               try clear c4b1
               try clear c6
               try clear c6b0
               try clear c6b1
               try clear c6b2
               try clear p6
               try clear c7
               try clear c7b0
               try clear c7b1
               try clear c7b2
               try clear c9
               try clear c12
               try clear c12b0
               try clear c12b1
               try clear c16
               try clear c16b0
               try clear c17
               try clear c17b0
               try clear c19
               try clear c19b0
               try clear p19
               try clear q19
               try clear hx19
               try clear c20
               try clear c20b0
               try clear c21
               try clear c21b0
               try clear c23
               try clear c23b0
               try clear c23b1
               try clear c26
               try clear c26b0
               try clear c26b1
               try clear c27
               try clear c27b0
               try clear c28
               try clear c28b0
               try clear c29
               try clear c29b0
               try clear c29b1
               try clear c30
               try clear c30b0
               try clear c30b1
               try clear hx193_0
               try clear hx194_0
               try clear p193
               try clear p194
               try clear p2
               try clear p6
               try clear q193
               try clear q194
               obtain ⟨kq, x11_24, x81_24, rfl, rfl, HA, HJ24, HO_7, HB⟩ := hcut
               cases kq with
               | zero => exact absurd HA.out (by simp [wherrylaw20_FrameSpoils.j2])
               | succ kj24 =>
                have H := HA.out
                clear HA
                simp only [wherrylaw20_FrameSpoils.j2] at H
                by_cases c31 : x81_24 = true
                ·subst c31
                 have H1 : (some false) = some r := by rw [if_pos rfl] at H; exact H
                 clear H
                 have H := H1
                 clear H1
                 obtain rfl := Option.some.inj H
                 go_wp2
                 repeat (go_quiet (fail); try go_wp2)
                 go_ret
                 exact ⟨by first | rfl | (simp [errW_none, errW_some] <;> rfl) | (simp only [← hji18, ← hji22, ← hji24]; first | rfl | (simp [errW_none, errW_some] <;> rfl)) | (simp [*, errW_none, errW_some] <;> rfl), by first | with_reducible exact HB.out | exact sB HB.out⟩
                ·replace c31 := Bool.eq_false_iff.mpr c31
                 subst c31
                 have H1 : (if x10_2 > x9_12 then (if x10_2 < (wrap64 (x9_12 + 16)) then (if 0 ≤ (IntKind.u64.wrap (wrap64 (x10_2 - x9_12))) then (if (x11_24 != ((Go.bits .and .i64 (shr .i64 (Int.tmod (wrap64 ((Int.tmod a2 65536) + 65536)) 65536) (IntKind.u64.wrap (wrap64 (x10_2 - x9_12)))) 1) == 1)) = true then (some false) else (wherrylaw20_FrameSpoils.l0 kj24 l0 a2 t188 (wrap64 (8 * (l0.length : Int))) x9_12 (wrap64 (x10_2 + 1)))) else (none)) else (wherrylaw20_FrameSpoils.l0 kj24 l0 a2 t188 (wrap64 (8 * (l0.length : Int))) x9_12 (wrap64 (x10_2 + 1)))) else (wherrylaw20_FrameSpoils.l0 kj24 l0 a2 t188 (wrap64 (8 * (l0.length : Int))) x9_12 (wrap64 (x10_2 + 1)))) = some r := by rw [if_neg (show ¬ (false = true) by decide)] at H; exact H
                 clear H
                 have H := H1
                 clear H1
                 by_cases c32 : x10_2 > x9_12
                 ·rw [if_pos c32] at H
                  have c32b0 : decide (x9_12 < x10_2) = true := decide_eq_true c32
                  clear c32
                  by_cases c33 : x10_2 < (wrap64 (x9_12 + 16))
                  ·rw [if_pos c33] at H
                   have c33b0 : decide (x10_2 < (wrap64 (x9_12 + 16))) = true := decide_eq_true c33
                   clear c33
                   obtain ⟨ji34, hji34⟩ : ∃ j_ : Int, (IntKind.u64.wrap (wrap64 (x10_2 - x9_12))) = j_ := ⟨_, rfl⟩
                   replace H : (if 0 ≤ (ji34) then (if (x11_24 != ((Go.bits .and .i64 (shr .i64 (Int.tmod (wrap64 ((Int.tmod a2 65536) + 65536)) 65536) (ji34)) 1) == 1)) = true then (some false) else (wherrylaw20_FrameSpoils.l0 kj24 l0 a2 t188 (wrap64 (8 * (l0.length : Int))) x9_12 (wrap64 (x10_2 + 1)))) else (none)) = some r := by first | (rw [hji34] at H; exact H) | (simp only [hji34] at H ⊢; exact H)
                   by_cases c35 : 0 ≤ (ji34)
                   ·rw [if_pos c35] at H
                    have c35b0 := eq_true c35
                    have c35b1 : decide (0 ≤ (ji34)) = true := decide_eq_true c35
                    clear c35
                    obtain ⟨ji36, hji36⟩ : ∃ j_ : Int, (shr .i64 (Int.tmod (wrap64 ((Int.tmod a2 65536) + 65536)) 65536) (ji34)) = j_ := ⟨_, rfl⟩
                    replace H : (if (x11_24 != ((Go.bits .and .i64 (ji36) 1) == 1)) = true then (some false) else (wherrylaw20_FrameSpoils.l0 kj24 l0 a2 t188 (wrap64 (8 * (l0.length : Int))) x9_12 (wrap64 (x10_2 + 1)))) = some r := by first | (rw [hji36] at H; exact H) | (simp only [hji36] at H ⊢; exact H)
                    have hji36_ : ((Int.tmod (wrap64 ((Int.tmod a2 65536) + 65536)) 65536) / 2 ^ min (ji34).toNat 64) = ji36 := hji36
                    have hji36z : (ji34) ≤ 64 → ((Int.tmod (wrap64 ((Int.tmod a2 65536) + 65536)) 65536) / 2 ^ (ji34).toNat) = ji36 := shr_small hji36
                    by_cases c37 : (x11_24 != ((Go.bits .and .i64 (ji36) 1) == 1)) = true
                    ·rw [if_pos c37] at H
                     have c37b0 : (x11_24 != ((Go.bits .and .i64 (ji36) 1) == 1)) = true := c37
                     (try (have c37b1 : decide (x11_24 = ((Go.bits .and .i64 (ji36) 1) == 1)) = false := by simpa using c37))
                     (try (have c37b2 : (x11_24 == ((Go.bits .and .i64 (ji36) 1) == 1)) = false := by simpa using c37))
                     (try (have c37b3 : ¬ (x11_24 = ((Go.bits .and .i64 (ji36) 1) == 1)) := by simpa using c37))
                     clear c37
                     obtain rfl := Option.some.inj H
                     go_wp2
                     repeat (go_quiet (fail); try go_wp2)
                     go_ret
                     exact ⟨by first | rfl | (simp [errW_none, errW_some] <;> rfl) | (simp only [← hji18, ← hji22, ← hji24, ← hji34, ← hji36]; first | rfl | (simp [errW_none, errW_some] <;> rfl)) | (simp [*, errW_none, errW_some] <;> rfl), by first | with_reducible exact HB.out | exact sB HB.out⟩
                    ·rw [if_neg c37] at H
                     have c37b0 : (x11_24 != ((Go.bits .and .i64 (ji36) 1) == 1)) = false := by simpa using c37
                     (try (have c37b1 : decide (x11_24 = ((Go.bits .and .i64 (ji36) 1) == 1)) = true := by simpa using c37))
                     (try (have c37b2 : (x11_24 == ((Go.bits .and .i64 (ji36) 1) == 1)) = true := by simpa using c37))
                     clear c37
                     have H' := Aside0.mk H
                     clear H
                     go_wp2
                     repeat (go_quiet (fail); try go_wp2)
                     go_roundg kj24
                     case measure => have := HJ12.out; have := HK2.out; have := HJ24.out; omega
                     case rel => exact ⟨(wrap64 (x10_2 + 1)), (by first | rfl | (simp; done) | (simp [*]; done)), H', ⟨by have := HJ12.out; have := HK2.out; have := HJ24.out; omega⟩, ⟨by first | with_reducible exact HO_7.out | exact sR HO_7.out⟩, ⟨by first | with_reducible exact HB.out | exact sB HB.out⟩⟩
                   ·rw [if_neg c35] at H
                    exact absurd H (by simp)
                  ·rw [if_neg c33] at H
                   have c33b0 : decide (x10_2 < (wrap64 (x9_12 + 16))) = false := decide_eq_false c33
                   clear c33
                   have H' := Aside0.mk H
                   clear H
                   go_wp2
                   repeat (go_quiet (fail); try go_wp2)
                   go_roundg kj24
                   case measure => have := HJ12.out; have := HK2.out; have := HJ24.out; omega
                   case rel => exact ⟨(wrap64 (x10_2 + 1)), (by first | rfl | (simp; done) | (simp [*]; done)), H', ⟨by have := HJ12.out; have := HK2.out; have := HJ24.out; omega⟩, ⟨by first | with_reducible exact HO_7.out | exact sR HO_7.out⟩, ⟨by first | with_reducible exact HB.out | exact sB HB.out⟩⟩
                 ·rw [if_neg c32] at H
                  have c32b0 : decide (x9_12 < x10_2) = false := decide_eq_false c32
                  clear c32
                  have H' := Aside0.mk H
                  clear H
                  go_wp2
                  repeat (go_quiet (fail); try go_wp2)
                  go_roundg kj24
                  case measure => have := HJ12.out; have := HK2.out; have := HJ24.out; omega
                  case rel => exact ⟨(wrap64 (x10_2 + 1)), (by first | rfl | (simp; done) | (simp [*]; done)), H', ⟨by have := HJ12.out; have := HK2.out; have := HJ24.out; omega⟩, ⟨by first | with_reducible exact HO_7.out | exact sR HO_7.out⟩, ⟨by first | with_reducible exact HB.out | exact sB HB.out⟩⟩
             ·rw [if_neg c23] at H
              exact absurd H (by simp)
            ·rw [if_neg c21] at H
             exact absurd H (by simp)
           ·rw [if_neg c20] at H
            exact absurd H (by simp)
          ·rw [if_neg c19] at H
           exact absurd H (by simp)
         ·rw [if_neg c17] at H
          have c17b0 : decide (x10_2 < (wrap64 (8 * (l0.length : Int)))) = false := decide_eq_false c17
          clear c17
          replace H := Option.bind_eq_some_iff.mp H
          obtain ⟨t192, A380, H⟩ := H
          replace H : (some t192) = some r := H
          have A38 := Aside0.mk A380
          clear A380
          obtain rfl := Option.some.inj H
          go_wp2_with (first | (go_at_call 14; (with_reducible refine (wherrylaw20_wakes.calls k2  t192 _ A38.out).mono ?_); rintro e w39 ⟨rfl, hb⟩; have n0_ := Aside0.mk (bR HO_7.out hb); have n1_ := Aside0.mk (below_step (by first | with_reducible exact HB.out | exact sB HB.out) hb); clear HO_7; clear HB; have HO_7 := n0_; have HB := n1_; clear n0_ n1_; (try clear hb); (try clear hb2); (try clear hk); (try clear hi)))
          repeat (go_quiet (first | (go_at_call 14; (with_reducible refine (wherrylaw20_wakes.calls k2  t192 _ A38.out).mono ?_); rintro e w39 ⟨rfl, hb⟩; have n0_ := Aside0.mk (bR HO_7.out hb); have n1_ := Aside0.mk (below_step (by first | with_reducible exact HB.out | exact sB HB.out) hb); clear HO_7; clear HB; have HO_7 := n0_; have HB := n1_; clear n0_ n1_; (try clear hb); (try clear hb2); (try clear hk); (try clear hi))); try go_wp2_with (first | (go_at_call 14; (with_reducible refine (wherrylaw20_wakes.calls k2  t192 _ A38.out).mono ?_); rintro e w39 ⟨rfl, hb⟩; have n0_ := Aside0.mk (bR HO_7.out hb); have n1_ := Aside0.mk (below_step (by first | with_reducible exact HB.out | exact sB HB.out) hb); clear HO_7; clear HB; have HO_7 := n0_; have HB := n1_; clear n0_ n1_; (try clear hb); (try clear hb2); (try clear hk); (try clear hi))))
          go_ret
          exact ⟨by first | rfl | (simp [errW_none, errW_some] <;> rfl) | (simp [*, errW_none, errW_some] <;> rfl), by first | with_reducible exact HB.out | exact sB HB.out⟩
  ·rw [if_neg c6] at H
   have c6b0 : ((t188.length : Int) == (l0.length : Int)) = false := beq_eq_false_iff_ne.mpr c6
   have c6b1 : ((t188.length : Int) != (l0.length : Int)) = true := bne_iff_ne.mpr c6
   have c6b2 : (t188.length == l0.length) = false := by first | simpa using c6 | (simp at c6 ⊢; omega)
   obtain rfl := Option.some.inj H
   go_enter Try.func9, Try.ntmps9
   go_wp2_with (first | (go_at_call 21; (with_reducible refine (frame_Spoil.calls k _ _ l0 a1 a2 t188 _ ?side1 ?side2 A5.out).mono ?_); (case side1 => first | with_reducible exact HR0.out | exact sC (HR0.out)); (case side2 => exact HC0.out); rintro e w40 ⟨v189, rfl, ho0, hb⟩; have n0_ := Aside0.mk (Kd.R_lower ho0 (below_size (by first | with_reducible exact HB.out | exact sB HB.out))); have n1_ := Aside0.mk (below_step (by first | with_reducible exact HB.out | exact sB HB.out) hb); clear HB; have HO190 := n0_; have HB := n1_; clear n0_ n1_; (try clear hb); (try clear hb2); (try clear hk); (try clear hi); (try clear ho0); obtain ⟨Ao41, co41, eo41⟩ := Kd.R_slice HO190.out; subst eo41))
   repeat (go_quiet (first | (go_at_call 21; (with_reducible refine (frame_Spoil.calls k _ _ l0 a1 a2 t188 _ ?side1 ?side2 A5.out).mono ?_); (case side1 => first | with_reducible exact HR0.out | exact sC (HR0.out)); (case side2 => exact HC0.out); rintro e w40 ⟨v189, rfl, ho0, hb⟩; have n0_ := Aside0.mk (Kd.R_lower ho0 (below_size (by first | with_reducible exact HB.out | exact sB HB.out))); have n1_ := Aside0.mk (below_step (by first | with_reducible exact HB.out | exact sB HB.out) hb); clear HB; have HO190 := n0_; have HB := n1_; clear n0_ n1_; (try clear hb); (try clear hb2); (try clear hk); (try clear hi); (try clear ho0); obtain ⟨Ao41, co41, eo41⟩ := Kd.R_slice HO190.out; subst eo41)); try go_wp2_with (first | (go_at_call 21; (with_reducible refine (frame_Spoil.calls k _ _ l0 a1 a2 t188 _ ?side1 ?side2 A5.out).mono ?_); (case side1 => first | with_reducible exact HR0.out | exact sC (HR0.out)); (case side2 => exact HC0.out); rintro e w40 ⟨v189, rfl, ho0, hb⟩; have n0_ := Aside0.mk (Kd.R_lower ho0 (below_size (by first | with_reducible exact HB.out | exact sB HB.out))); have n1_ := Aside0.mk (below_step (by first | with_reducible exact HB.out | exact sB HB.out) hb); clear HB; have HO190 := n0_; have HB := n1_; clear n0_ n1_; (try clear hb); (try clear hb2); (try clear hk); (try clear hi); (try clear ho0); obtain ⟨Ao41, co41, eo41⟩ := Kd.R_slice HO190.out; subst eo41)))
   go_ret
   exact ⟨by first | rfl | (simp [errW_none, errW_some] <;> rfl) | (simp [*, errW_none, errW_some] <;> rfl), by first | with_reducible exact HB.out | exact sB HB.out⟩

end Go.Proofs.Ytcomabcmjhlabaa.FA
