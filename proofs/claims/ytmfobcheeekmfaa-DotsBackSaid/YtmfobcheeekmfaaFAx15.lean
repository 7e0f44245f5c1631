/- Functions of the program, each told as a plain Lean function, and that the program computes it: written by this session's own program. -/
import Derived.Test.YtmfobcheeekmfaaFAx0
import Derived.Test.YtmfobcheeekmfaaFAx1
import Derived.Test.YtmfobcheeekmfaaFAx3
import Derived.Test.YtmfobcheeekmfaaFAx4
import Derived.Test.YtmfobcheeekmfaaFAx8
import Derived.Test.YtmfobcheeekmfaaFAx9
namespace Go.Proofs.Ytmfobcheeekmfaa.FA
open Go.RowKit Go.Proofs.YtmfobcheeekmfaaW.PrintWords Go.Proofs.YtmfobcheeekmfaaW.PrintLast Go.Proofs.YtmfobcheeekmfaaW.PrintMore
attribute [local go_sem] max2_int min2_int max_two min_two max_three min_three max_four min_four   -- for this text's walks alone
set_option linter.unusedVariables false
set_option linter.unusedSimpArgs false

/-! ### wherrylaw14_DotsTwo: function 9 -/
mutual
def wherrylaw14_DotsTwo.j0 : Nat → List Int → List Int → Bool → Option (Bool)
 | 0, _, _, _ => none
 | k + 1, x0, x1, x23 => if x23 = true then (some true) else ((dots_Stuff.f k x0).bind fun bt594 => ((dots_Stuff.f k x1).bind fun bt598 => (if bt594.2 = 0 then (wherrylaw14_DotsTwo.j1 k x0 x1 bt594.1 bt598.1 (bt598.2 != 0)) else (wherrylaw14_DotsTwo.j1 k x0 x1 bt594.1 bt598.1 true))))
def wherrylaw14_DotsTwo.j1 : Nat → List Int → List Int → List Int → List Int → Bool → Option (Bool)
 | 0, _, _, _, _, _ => none
 | k + 1, x0, x1, x5, x7, x39 => if x39 = true then ((wherrylaw14_wakes.f k).bind fun t602 => (some t602)) else ((wherrykeep_Twin.f x5).bind fun t603 => (if t603.length + x7.length < 140737488355328 then ((some (t603 ++ x7 : List Int)).bind fun y606 => ((dots_Strip.f k y606).bind fun bt609 => (if bt609.2.2 = 0 then (if bt609.2.1 < 0 then (wherrylaw14_DotsTwo.j2 k x0 x1 y606 bt609.1 bt609.2.1 true) else (wherrylaw14_DotsTwo.j2 k x0 x1 y606 bt609.1 bt609.2.1 (decide (bt609.2.1 > (y606.length : Int))))) else (wherrylaw14_DotsTwo.j2 k x0 x1 y606 bt609.1 bt609.2.1 true)))) else (none)))
def wherrylaw14_DotsTwo.j2 : Nat → List Int → List Int → List Int → List Int → Int → Bool → Option (Bool)
 | 0, _, _, _, _, _, _ => none
 | k + 1, x0, x1, x9, x10, x11, x62 => if x62 = true then (some false) else (if 0 ≤ x11 then (if x11 ≤ (x9.length : Int) then ((dots_Strip.f k (x9.drop (x11 : Int).toNat)).bind fun bt618 => (if bt618.2.2 = 0 then (if (wrap64 (x11 + bt618.2.1)) = (x9.length : Int) then ((wherrykeep_Bytes.f k x10 x0).bind fun t623 => (if t623 = true then ((wherrykeep_Bytes.f k bt618.1 x1).bind fun t624 => (if t624 = true then ((wherrylaw14_wakes.f k).bind fun t625 => (some t625)) else (some false))) else (some false))) else (some false)) else (some false))) else (none)) else (none))
end
def wherrylaw14_DotsTwo.f (k : Nat) (l0 : List Int) (l1 : List Int) : Option (Bool) := if (l0.length : Int) > 2000 then (wherrylaw14_DotsTwo.j0 k l0 l1 true) else (wherrylaw14_DotsTwo.j0 k l0 l1 (decide ((l1.length : Int) > 2000)))
theorem wherrylaw14_DotsTwo.mono_l : ∀ k, (∀ y0 y1 y2, LeO (wherrylaw14_DotsTwo.j0 k y0 y1 y2) (wherrylaw14_DotsTwo.j0 (k + 1) y0 y1 y2)) ∧ (∀ y0 y1 y2 y3 y4, LeO (wherrylaw14_DotsTwo.j1 k y0 y1 y2 y3 y4) (wherrylaw14_DotsTwo.j1 (k + 1) y0 y1 y2 y3 y4)) ∧ (∀ y0 y1 y2 y3 y4 y5, LeO (wherrylaw14_DotsTwo.j2 k y0 y1 y2 y3 y4 y5) (wherrylaw14_DotsTwo.j2 (k + 1) y0 y1 y2 y3 y4 y5))
 | 0 => ⟨fun _ _ _ r h => by simp [wherrylaw14_DotsTwo.j0] at h, fun _ _ _ _ _ r h => by simp [wherrylaw14_DotsTwo.j1] at h, fun _ _ _ _ _ _ r h => by simp [wherrylaw14_DotsTwo.j2] at h⟩
 | k + 1 => by
  obtain ⟨ih0, ih1, ih2⟩ := wherrylaw14_DotsTwo.mono_l k
  refine ⟨?_, ?_, ?_⟩
  ·intro y0 y1 y2
   unfold wherrylaw14_DotsTwo.j0
   repeat' first
   | (with_reducible exact ih0 _ _ _)
   | (with_reducible exact ih1 _ _ _ _ _)
   | (with_reducible exact ih2 _ _ _ _ _ _)
   | (with_reducible exact dots_Strip.mono _ _)
   | (with_reducible exact dots_Stuff.mono _ _)
   | (with_reducible exact wherrykeep_Bytes.mono _ _ _)
   | (with_reducible exact wherrylaw14_wakes.mono _)
   | (with_reducible exact LeO.refl _)
   | (with_reducible exact LeO.none _)
   | (with_reducible refine LeO.ite ?_ ?_)
   | (with_reducible refine LeO.bind ?_ (fun _ => ?_))
   | exact ih0 _ _ _
   | exact ih1 _ _ _ _ _
   | exact ih2 _ _ _ _ _ _
   | exact dots_Strip.mono _ _
   | exact dots_Stuff.mono _ _
   | exact wherrykeep_Bytes.mono _ _ _
   | exact wherrylaw14_wakes.mono _
   | exact LeO.none _
   | refine LeO.ite ?_ ?_
   | refine LeO.bind ?_ (fun _ => ?_)
  ·intro y0 y1 y2 y3 y4
   unfold wherrylaw14_DotsTwo.j1
   repeat' first
   | (with_reducible exact ih0 _ _ _)
   | (with_reducible exact ih1 _ _ _ _ _)
   | (with_reducible exact ih2 _ _ _ _ _ _)
   | (with_reducible exact dots_Strip.mono _ _)
   | (with_reducible exact dots_Stuff.mono _ _)
   | (with_reducible exact wherrykeep_Bytes.mono _ _ _)
   | (with_reducible exact wherrylaw14_wakes.mono _)
   | (with_reducible exact LeO.refl _)
   | (with_reducible exact LeO.none _)
   | (with_reducible refine LeO.ite ?_ ?_)
   | (with_reducible refine LeO.bind ?_ (fun _ => ?_))
   | exact ih0 _ _ _
   | exact ih1 _ _ _ _ _
   | exact ih2 _ _ _ _ _ _
   | exact dots_Strip.mono _ _
   | exact dots_Stuff.mono _ _
   | exact wherrykeep_Bytes.mono _ _ _
   | exact wherrylaw14_wakes.mono _
   | exact LeO.none _
   | refine LeO.ite ?_ ?_
   | refine LeO.bind ?_ (fun _ => ?_)
  ·intro y0 y1 y2 y3 y4 y5
   unfold wherrylaw14_DotsTwo.j2
   repeat' first
   | (with_reducible exact ih0 _ _ _)
   | (with_reducible exact ih1 _ _ _ _ _)
   | (with_reducible exact ih2 _ _ _ _ _ _)
   | (with_reducible exact dots_Strip.mono _ _)
   | (with_reducible exact dots_Stuff.mono _ _)
   | (with_reducible exact wherrykeep_Bytes.mono _ _ _)
   | (with_reducible exact wherrylaw14_wakes.mono _)
   | (with_reducible exact LeO.refl _)
   | (with_reducible exact LeO.none _)
   | (with_reducible refine LeO.ite ?_ ?_)
   | (with_reducible refine LeO.bind ?_ (fun _ => ?_))
   | exact ih0 _ _ _
   | exact ih1 _ _ _ _ _
   | exact ih2 _ _ _ _ _ _
   | exact dots_Strip.mono _ _
   | exact dots_Stuff.mono _ _
   | exact wherrykeep_Bytes.mono _ _ _
   | exact wherrylaw14_wakes.mono _
   | exact LeO.none _
   | refine LeO.ite ?_ ?_
   | refine LeO.bind ?_ (fun _ => ?_)
theorem wherrylaw14_DotsTwo.mono : ∀ a0 a1 k, LeO (wherrylaw14_DotsTwo.f k a0 a1) (wherrylaw14_DotsTwo.f (k + 1) a0 a1) := by
 intro a0 a1 k
 obtain ⟨ih0, ih1, ih2⟩ := wherrylaw14_DotsTwo.mono_l k
 unfold wherrylaw14_DotsTwo.f
 repeat' first
   | (with_reducible exact ih0 _ _ _)
   | (with_reducible exact ih1 _ _ _ _ _)
   | (with_reducible exact ih2 _ _ _ _ _ _)
   | (with_reducible exact dots_Strip.mono _ _)
   | (with_reducible exact dots_Stuff.mono _ _)
   | (with_reducible exact wherrykeep_Bytes.mono _ _ _)
   | (with_reducible exact wherrylaw14_wakes.mono _)
   | (with_reducible exact LeO.refl _)
   | (with_reducible exact LeO.none _)
   | (with_reducible refine LeO.ite ?_ ?_)
   | (with_reducible refine LeO.bind ?_ (fun _ => ?_))
   | exact ih0 _ _ _
   | exact ih1 _ _ _ _ _
   | exact ih2 _ _ _ _ _ _
   | exact dots_Strip.mono _ _
   | exact dots_Stuff.mono _ _
   | exact wherrykeep_Bytes.mono _ _ _
   | exact wherrylaw14_wakes.mono _
   | exact LeO.none _
   | refine LeO.ite ?_ ?_
   | refine LeO.bind ?_ (fun _ => ?_)
set_option maxHeartbeats 8000000 in
set_option maxRecDepth 100000 in
theorem wherrylaw14_DotsTwo.calls (k : Nat) (A0 : Option Addr) (c0 : Nat) (l0 : List Int) (A1 : Option Addr) (c1 : Nat) (l1 : List Int) (r : Bool) (w : World) (hr0 : Kd.C (Kd.int .u8) w A0 l0.length l0) (hc0 : l0.length ≤ c0) (hr1 : Kd.C (Kd.int .u8) w A1 l1.length l1) (hc1 : l1.length ≤ c1) (hG : GOK w) (h : wherrylaw14_DotsTwo.f k l0 l1 = some r) :
  Calls Try.prog 9 #[.slice A0 l0.length c0, .slice A1 l1.length c1] w fun e w' => e = .returned (.bool r) ∧ Below w.heap.size w w' := by
 have HR0 := Aside0.mk hr0
 have HC0 := Aside0.mk hc0
 clear hr0 hc0
 have HR1 := Aside0.mk hr1
 have HC1 := Aside0.mk hc1
 clear hr1 hc1
 have HB := Aside0.mk (Below.refl w.heap.size w)
 have HG := Aside0.mk hG
 clear hG
 have H : (if (l0.length : Int) > 2000 then (wherrylaw14_DotsTwo.j0 k l0 l1 true) else (wherrylaw14_DotsTwo.j0 k l0 l1 (decide ((l1.length : Int) > 2000)))) = some r := h
 clear h
 have HC3 := Aside0.mk H
 clear H
 go_enter Try.func9, Try.ntmps9
 go_upto_region 1 with (fail)
 go_cut [23] (fun v23 wc => ∃ (kq : Nat) (x23_2 : Bool), v23 = .bool x23_2 ∧ Aside0 (wherrylaw14_DotsTwo.j0 kq l0 l1 x23_2 = some r) ∧ Aside0 (kq ≤ k) ∧ Aside0 (Below w.heap.size w wc))
 case first =>
  have H := HC3.out
  clear HC3
  by_cases c4 : (l0.length : Int) > 2000
  ·rw [if_pos c4] at H
   have c4b0 : decide (2000 < (l0.length : Int)) = true := decide_eq_true c4
   have c4b1 : decide (2000 < l0.length) = true := decide_eq_true (by omega)
   clear c4
   (first | rw [c4b0] | (simp only [i64_w, i32_w]; rw [c4b0]) | skip)
   have H' := Aside0.mk H
   clear H
   go_wp2
   go_meet
   case rel => exact ⟨_, (true), (by first | rfl | (simp; done) | (simp [*]; done)), H', ⟨by first | omega | exact Nat.le_refl _⟩, ⟨by repeat (first | (with_reducible first | exact HB.out | apply below_alloc | apply pw_below_drewN | apply below_drew1) | exact HB.out)⟩⟩
  ·rw [if_neg c4] at H
   have c4b0 : decide (2000 < (l0.length : Int)) = false := decide_eq_false c4
   have c4b1 : decide (2000 < l0.length) = false := decide_eq_false (by omega)
   clear c4
   (first | rw [c4b0] | (simp only [i64_w, i32_w]; rw [c4b0]) | skip)
   have H' := Aside0.mk H
   clear H
   go_wp2
   go_meet
   case rel => exact ⟨_, (decide ((l1.length : Int) > 2000)), (by first | rfl | (simp; done) | (simp [*]; done)), H', ⟨by first | omega | exact Nat.le_refl _⟩, ⟨by repeat (first | (with_reducible first | exact HB.out | apply below_alloc | apply pw_below_drewN | apply below_drew1) | exact HB.out)⟩⟩
 case rest =>
  clear HC3
  try clear c1
  try clear p2
  try clear c4
  try clear c4b0
  try clear c4b1
  obtain ⟨kq, x23_2, rfl, HA, HJ2, HB⟩ := hcut
  cases kq with
  | zero => exact absurd HA.out (by simp [wherrylaw14_DotsTwo.j0])
  | succ kj2 =>
   have H := HA.out
   clear HA
   simp only [wherrylaw14_DotsTwo.j0] at H
   by_cases c5 : x23_2 = true
   ·subst c5
    have H1 : (some true) = some r := by rw [if_pos rfl] at H; exact H
    clear H
    have H := H1
    clear H1
    obtain rfl := Option.some.inj H
    go_wp2
    go_ret
    exact ⟨by first | rfl | (simp [errW_none, errW_some] <;> rfl) | (simp [*, errW_none, errW_some] <;> rfl), by repeat (first | (with_reducible first | exact HB.out | apply below_alloc | apply pw_below_drewN | apply below_drew1) | exact HB.out)⟩
   ·replace c5 := Bool.eq_false_iff.mpr c5
    subst c5
    have H1 : ((dots_Stuff.f kj2 l0).bind fun bt594 => ((dots_Stuff.f kj2 l1).bind fun bt598 => (if bt594.2 = 0 then (wherrylaw14_DotsTwo.j1 kj2 l0 l1 bt594.1 bt598.1 (bt598.2 != 0)) else (wherrylaw14_DotsTwo.j1 kj2 l0 l1 bt594.1 bt598.1 true)))) = some r := by rw [if_neg (show ¬ (false = true) by decide)] at H; exact H
    clear H
    have H := H1
    clear H1
    replace H := Option.bind_eq_some_iff.mp H
    obtain ⟨⟨t594, t595⟩, A60, H⟩ := H
    replace H : ((dots_Stuff.f kj2 l1).bind fun bt598 => (if t595 = 0 then (wherrylaw14_DotsTwo.j1 kj2 l0 l1 t594 bt598.1 (bt598.2 != 0)) else (wherrylaw14_DotsTwo.j1 kj2 l0 l1 t594 bt598.1 true))) = some r := H
    have A6 := Aside0.mk A60
    clear A60
    replace H := Option.bind_eq_some_iff.mp H
    obtain ⟨⟨t598, t599⟩, A70, H⟩ := H
    replace H : (if t595 = 0 then (wherrylaw14_DotsTwo.j1 kj2 l0 l1 t594 t598 (t599 != 0)) else (wherrylaw14_DotsTwo.j1 kj2 l0 l1 t594 t598 true)) = some r := H
    have A7 := Aside0.mk A70
    clear A70
    have HC8 := Aside0.mk H
    clear H
    go_upto_region 5 with (first | ((with_reducible refine gate_callee (f := 11) rfl ?_); refine goesL_ (some 26) rfl rfl Try.func11 (by kernel_rfl) rfl #[.slice A0 l0.length c0] rfl (by (try simp only [List.map_toArray, List.map_cons, List.map_nil]); first | done | rfl | (simp only [List.length_drop, List.length_take]; rfl) | (go_simp; done) | (go_simp; rfl)) ?_; (with_reducible refine (dots_Stuff.calls kj2 _ _ l0 t594 t595 _ ?side1 ?side2 ?side3 A6.out).mono ?_); (case side1 => repeat (first | exact (Kd.C_below HR0.out HB.out) | (with_reducible refine Kd.C_alloc ?_ _) | (with_reducible refine Kd.C_drewN ?_ _) | (with_reducible refine Kd.C_drew ?_))); (case side2 => exact HC0.out); (case side3 => first | exact HG.out | exact GOK_below HG.out (by repeat (first | (with_reducible first | exact HB.out | apply below_alloc | apply pw_below_drewN | apply below_drew1) | exact HB.out))); rintro e w9 ⟨v596, rfl, ho0, hb⟩; refine ⟨_, rfl, ?_⟩; have n0_ := Aside0.mk (Kd.R_lower ho0 (below_size (by repeat (first | (with_reducible first | exact HB.out | apply below_alloc | apply pw_below_drewN | apply below_drew1) | exact HB.out)))); have n1_ := Aside0.mk (below_step (by repeat (first | (with_reducible first | exact HB.out | apply below_alloc | apply pw_below_drewN | apply below_drew1) | exact HB.out)) hb); clear HB; have HO597 := n0_; have HB := n1_; clear n0_ n1_; (try clear hb); (try clear hb2); (try clear hk); (try clear hi); (try clear ho0)) | ((with_reducible refine gate_callee (f := 11) rfl ?_); refine goesL_ (some 31) rfl rfl Try.func11 (by kernel_rfl) rfl #[.slice A1 l1.length c1] rfl (by (try simp only [List.map_toArray, List.map_cons, List.map_nil]); first | done | rfl | (simp only [List.length_drop, List.length_take]; rfl) | (go_simp; done) | (go_simp; rfl)) ?_; (with_reducible refine (dots_Stuff.calls kj2 _ _ l1 t598 t599 _ ?side1 ?side2 ?side3 A7.out).mono ?_); (case side1 => repeat (first | exact (Kd.C_below HR1.out HB.out) | (with_reducible refine Kd.C_alloc ?_ _) | (with_reducible refine Kd.C_drewN ?_ _) | (with_reducible refine Kd.C_drew ?_))); (case side2 => exact HC1.out); (case side3 => first | exact HG.out | exact GOK_below HG.out (by repeat (first | (with_reducible first | exact HB.out | apply below_alloc | apply pw_below_drewN | apply below_drew1) | exact HB.out))); rintro e w10 ⟨v600, rfl, ho0, hb⟩; refine ⟨_, rfl, ?_⟩; have n0_ := Aside0.mk (Kd.R_elder' (by (with_reducible repeat (first | apply Kd.R_alloc | apply Kd.R_drewN | apply Kd.R_drew)); exact HO597.out) (Kd.R_base ho0) hb); have n1_ := Aside0.mk (Kd.R_lower (Kd.R_new' ho0 (Kd.R_lt (by (with_reducible repeat (first | apply Kd.R_alloc | apply Kd.R_drewN | apply Kd.R_drew)); exact HO597.out))) (below_size (by repeat (first | (with_reducible first | exact HB.out | apply below_alloc | apply pw_below_drewN | apply below_drew1) | exact HB.out)))); have n2_ := Aside0.mk (below_step (by repeat (first | (with_reducible first | exact HB.out | apply below_alloc | apply pw_below_drewN | apply below_drew1) | exact HB.out)) hb); clear HO597; clear HB; have HO597 := n0_; have HO601 := n1_; have HB := n2_; clear n0_ n1_ n2_; (try clear hb); (try clear hb2); (try clear hk); (try clear hi); (try clear ho0)))
    (try simp only [Act.put, List.setIfInBounds_toArray, List.set_cons_zero, List.set_cons_succ])
    go_cut [39] (fun v39 wc => ∃ (kq : Nat) (x39_7 : Bool), v39 = .bool x39_7 ∧ Aside0 (wherrylaw14_DotsTwo.j1 kq l0 l1 t594 t598 x39_7 = some r) ∧ Aside0 (kq ≤ kj2) ∧ Aside0 (Kd.R (Kd.int .u8) 5 wc w.heap.size (fun k_ => some k_ ≠ (v600 : Value).ownBlock) v596 t594) ∧ Aside0 (Kd.R (Kd.int .u8) 5 wc w.heap.size (fun k_ => some k_ ≠ (v596 : Value).ownBlock) v600 t598) ∧ Aside0 (Below w.heap.size w wc))
    case first =>
     have H := HC8.out
     clear HC8
     by_cases c11 : t595 = 0
     ·rw [if_pos c11] at H
      have c11b0 : (t595 == 0) = true := beq_iff_eq.mpr c11
      have c11b1 : (t595 != 0) = false := bne_eq_false_iff_eq.mpr c11
      clear c11
      (first | rw [c11b0] | (simp only [i64_w, i32_w]; rw [c11b0]) | skip)
      have H' := Aside0.mk H
      clear H
      go_wp2
      go_meet
      case rel => exact ⟨_, ((t599 != 0)), (by first | rfl | (simp; done) | (simp [*]; done)), H', ⟨by have := HJ2.out; first | omega | exact Nat.le_refl _⟩, ⟨by (with_reducible repeat (first | apply Kd.R_alloc | apply Kd.R_drewN | apply Kd.R_drew)); exact Kd.R_mono HO597.out (fun _ hk => hk.2)⟩, ⟨by (with_reducible repeat (first | apply Kd.R_alloc | apply Kd.R_drewN | apply Kd.R_drew)); exact Kd.R_mono HO601.out (fun _ hk => hk.2)⟩, ⟨by repeat (first | (with_reducible first | exact HB.out | apply below_alloc | apply pw_below_drewN | apply below_drew1) | exact HB.out)⟩⟩
     ·rw [if_neg c11] at H
      have c11b0 : (t595 == 0) = false := beq_eq_false_iff_ne.mpr c11
      have c11b1 : (t595 != 0) = true := bne_iff_ne.mpr c11
      (first | rw [c11b0] | (simp only [i64_w, i32_w]; rw [c11b0]) | skip)
      have H' := Aside0.mk H
      clear H
      go_wp2
      go_meet
      case rel => exact ⟨_, (true), (by first | rfl | (simp; done) | (simp [*]; done)), H', ⟨by have := HJ2.out; first | omega | exact Nat.le_refl _⟩, ⟨by (with_reducible repeat (first | apply Kd.R_alloc | apply Kd.R_drewN | apply Kd.R_drew)); exact Kd.R_mono HO597.out (fun _ hk => hk.2)⟩, ⟨by (with_reducible repeat (first | apply Kd.R_alloc | apply Kd.R_drewN | apply Kd.R_drew)); exact Kd.R_mono HO601.out (fun _ hk => hk.2)⟩, ⟨by repeat (first | (with_reducible first | exact HB.out | apply below_alloc | apply pw_below_drewN | apply below_drew1) | exact HB.out)⟩⟩
    case rest =>
     clear HC8
     try clear c1
     try clear p2
     try clear c4
     try clear c4b0
     try clear c4b1
     try clear c5
     try clear c9
     try clear c11
     try clear c11b0
     try clear c11b1
     try clear p2
     obtain ⟨kq, x39_7, rfl, HA, HJ7, HO_5, HO_7, HB⟩ := hcut
     cases kq with
     | zero => exact absurd HA.out (by simp [wherrylaw14_DotsTwo.j1])
     | succ kj7 =>
      have H := HA.out
      clear HA
      simp only [wherrylaw14_DotsTwo.j1] at H
      by_cases c12 : x39_7 = true
      ·subst c12
       have H1 : ((wherrylaw14_wakes.f kj7).bind fun t602 => (some t602)) = some r := by rw [if_pos rfl] at H; exact H
       clear H
       have H := H1
       clear H1
       replace H := Option.bind_eq_some_iff.mp H
       obtain ⟨t602, A130, H⟩ := H
       replace H : (some t602) = some r := H
       have A13 := Aside0.mk A130
       clear A130
       obtain rfl := Option.some.inj H
       go_wp2_with (first | ((with_reducible refine gate_callee (f := 21) rfl ?_); refine goesL_ (some 40) rfl rfl Try.func21 (by kernel_rfl) rfl #[] rfl (by (try simp only [List.map_toArray, List.map_cons, List.map_nil]); first | done | rfl | (simp only [List.length_drop, List.length_take]; rfl) | (go_simp; done) | (go_simp; rfl)) ?_; (with_reducible refine (wherrylaw14_wakes.calls kj7  t602 _ ?side1 A13.out).mono ?_); (case side1 => first | exact HG.out | exact GOK_below HG.out (by repeat (first | (with_reducible first | exact HB.out | apply below_alloc | apply pw_below_drewN | apply below_drew1) | exact HB.out))); rintro e w14 ⟨rfl, hb⟩; refine ⟨_, rfl, ?_⟩; have n0_ := Aside0.mk (Kd.R_below (by (with_reducible repeat (first | apply Kd.R_alloc | apply Kd.R_drewN | apply Kd.R_drew)); exact HO_5.out) hb); have n1_ := Aside0.mk (Kd.R_below (by (with_reducible repeat (first | apply Kd.R_alloc | apply Kd.R_drewN | apply Kd.R_drew)); exact HO_7.out) hb); have n2_ := Aside0.mk (below_step (by repeat (first | (with_reducible first | exact HB.out | apply below_alloc | apply pw_below_drewN | apply below_drew1) | exact HB.out)) hb); clear HO_5; clear HO_7; clear HB; have HO_5 := n0_; have HO_7 := n1_; have HB := n2_; clear n0_ n1_ n2_; (try clear hb); (try clear hb2); (try clear hk); (try clear hi)))
       go_ret
       exact ⟨by first | rfl | (simp [errW_none, errW_some] <;> rfl) | (simp [*, errW_none, errW_some] <;> rfl), by repeat (first | (with_reducible first | exact HB.out | apply below_alloc | apply pw_below_drewN | apply below_drew1) | exact HB.out)⟩
      ·replace c12 := Bool.eq_false_iff.mpr c12
       subst c12
       have H1 : ((wherrykeep_Twin.f t594).bind fun t603 => (if t603.length + t598.length < 140737488355328 then ((some (t603 ++ t598 : List Int)).bind fun y606 => ((dots_Strip.f kj7 y606).bind fun bt609 => (if bt609.2.2 = 0 then (if bt609.2.1 < 0 then (wherrylaw14_DotsTwo.j2 kj7 l0 l1 y606 bt609.1 bt609.2.1 true) else (wherrylaw14_DotsTwo.j2 kj7 l0 l1 y606 bt609.1 bt609.2.1 (decide (bt609.2.1 > (y606.length : Int))))) else (wherrylaw14_DotsTwo.j2 kj7 l0 l1 y606 bt609.1 bt609.2.1 true)))) else (none))) = some r := by rw [if_neg (show ¬ (false = true) by decide)] at H; exact H
       clear H
       have H := H1
       clear H1
       replace H := Option.bind_eq_some_iff.mp H
       obtain ⟨t603, A150, H⟩ := H
       replace H : (if t603.length + t598.length < 140737488355328 then ((some (t603 ++ t598 : List Int)).bind fun y606 => ((dots_Strip.f kj7 y606).bind fun bt609 => (if bt609.2.2 = 0 then (if bt609.2.1 < 0 then (wherrylaw14_DotsTwo.j2 kj7 l0 l1 y606 bt609.1 bt609.2.1 true) else (wherrylaw14_DotsTwo.j2 kj7 l0 l1 y606 bt609.1 bt609.2.1 (decide (bt609.2.1 > (y606.length : Int))))) else (wherrylaw14_DotsTwo.j2 kj7 l0 l1 y606 bt609.1 bt609.2.1 true)))) else (none)) = some r := H
       have A15 := Aside0.mk A150
       clear A150
       by_cases c16 : t603.length + t598.length < 140737488355328
       ·rw [if_pos c16] at H
        have LMc16 := Aside0.mk c16
        clear c16
        obtain ⟨y606, hy606⟩ : ∃ y_ : List Int, y_ = (t603 ++ t598) := ⟨_, rfl⟩
        replace H : ((dots_Strip.f kj7 y606).bind fun bt609 => (if bt609.2.2 = 0 then (if bt609.2.1 < 0 then (wherrylaw14_DotsTwo.j2 kj7 l0 l1 y606 bt609.1 bt609.2.1 true) else (wherrylaw14_DotsTwo.j2 kj7 l0 l1 y606 bt609.1 bt609.2.1 (decide (bt609.2.1 > (y606.length : Int))))) else (wherrylaw14_DotsTwo.j2 kj7 l0 l1 y606 bt609.1 bt609.2.1 true))) = some r := by first | (rw [hy606]; with_reducible exact H) | (have H2_ := (Option.bind_some _ _).symm.trans H; rw [hy606]; with_reducible exact H2_) | (have H2_ := (Option.bind_some _ _).symm.trans H; with_reducible exact H2_) | with_reducible exact H | (rw [hy606]; exact H) | exact H
        have Ny606 := Aside0.mk hy606
        clear hy606
        replace H := Option.bind_eq_some_iff.mp H
        obtain ⟨⟨t609, t610, t611⟩, A170, H⟩ := H
        replace H : (if t611 = 0 then (if t610 < 0 then (wherrylaw14_DotsTwo.j2 kj7 l0 l1 y606 t609 t610 true) else (wherrylaw14_DotsTwo.j2 kj7 l0 l1 y606 t609 t610 (decide (t610 > (y606.length : Int))))) else (wherrylaw14_DotsTwo.j2 kj7 l0 l1 y606 t609 t610 true)) = some r := H
        have A17 := Aside0.mk A170
        clear A170
        have HC18 := Aside0.mk H
        clear H
        obtain ⟨Ao19, co19, eo19⟩ := Kd.R_slice HO_5.out
        subst eo19
        go_upto_region 9 with (first | ((with_reducible refine gate_callee (f := 10) rfl ?_); refine goesL_ (some 42) rfl rfl Try.func10 (by kernel_rfl) rfl #[.slice Ao19 t594.length co19] rfl (by (try simp only [List.map_toArray, List.map_cons, List.map_nil]); first | done | rfl | (simp only [List.length_drop, List.length_take]; rfl) | (go_simp; done) | (go_simp; rfl)) ?_; (with_reducible refine (wherrykeep_Twin.calls _ _ t594 t603 _ ?side1 ?side2 A15.out).mono ?_); (case side1 => repeat (first | exact (Kd.R_reads' HO_5.out).2.2 | (with_reducible refine Kd.C_alloc ?_ _) | (with_reducible refine Kd.C_drewN ?_ _) | (with_reducible refine Kd.C_drew ?_))); (case side2 => exact (Kd.R_reads' HO_5.out).2.1); rintro e w20 ⟨v604, rfl, ho0, hb⟩; refine ⟨_, rfl, ?_⟩; have n0_ := Aside0.mk (Kd.R_elder' (by (with_reducible repeat (first | apply Kd.R_alloc | apply Kd.R_drewN | apply Kd.R_drew)); exact HO_5.out) (Kd.R_base ho0) hb); have n1_ := Aside0.mk (Kd.R_elder' (by (with_reducible repeat (first | apply Kd.R_alloc | apply Kd.R_drewN | apply Kd.R_drew)); exact HO_7.out) (Kd.R_base ho0) hb); have n2_ := Aside0.mk (Kd.R_lower (Kd.R_new' (Kd.R_new' ho0 (Kd.R_lt (by (with_reducible repeat (first | apply Kd.R_alloc | apply Kd.R_drewN | apply Kd.R_drew)); exact HO_5.out))) (Kd.R_lt (by (with_reducible repeat (first | apply Kd.R_alloc | apply Kd.R_drewN | apply Kd.R_drew)); exact HO_7.out))) (below_size (by repeat (first | (with_reducible first | exact HB.out | apply below_alloc | apply pw_below_drewN | apply below_drew1) | exact HB.out)))); have n3_ := Aside0.mk (below_step (by repeat (first | (with_reducible first | exact HB.out | apply below_alloc | apply pw_below_drewN | apply below_drew1) | exact HB.out)) hb); clear HO_5; clear HO_7; clear HB; have HO_5 := n0_; have HO_7 := n1_; have HO605 := n2_; have HB := n3_; clear n0_ n1_ n2_ n3_; (try clear hb); (try clear hb2); (try clear hk); (try clear hi); (try clear ho0); obtain ⟨Ao22, co22, eo22⟩ := Kd.R_slice HO_7.out; subst eo22) | ((with_reducible refine gate_builtin (b := .append) (xs := #[.tmp 42, .tmp 43]) rfl ?_); (try (refine gate_guard (by rfl) ?_; dsimp only)); at_builtin; refine Kd.R_append_rows (Kd.int .u8) (w0 := w) w.heap.size rfl (.tmp 42) (.tmp 43) 22 5 (.int .u8 0) 1 rfl Try.underlying22 info5 rfl (by decide) (by omega) v604 t603 t598 _ _ _ (fun k_ => some k_ ≠ (.slice Ao19 t594.length co19 : Value).ownBlock ∧ some k_ ≠ (.slice Ao22 t598.length co22 : Value).ownBlock) (fun _ => False) rfl rfl ?aO ?aR (fun _ _ h => h) (fun _ h => h.elim) ?aF ?aB ?aS ?aL ?_; (case aR => repeat (first | exact (Kd.R_reads' HO_7.out).2.2 | (with_reducible refine Kd.C_alloc ?_ _) | (with_reducible refine Kd.C_drewN ?_ _) | (with_reducible refine Kd.C_drew ?_))); (case aB => exact (by repeat (first | (with_reducible first | exact HB.out | apply below_alloc | apply pw_below_drewN | apply below_drew1) | exact HB.out))); (case aF => exact (fun k_ hk => ⟨Kd.fresh' (Kd.R_lt (by (with_reducible repeat (first | apply Kd.R_alloc | apply Kd.R_drewN | apply Kd.R_drew)); exact HO_5.out)) k_ hk, Kd.fresh' (Kd.R_lt (by (with_reducible repeat (first | apply Kd.R_alloc | apply Kd.R_drewN | apply Kd.R_drew)); exact HO_7.out)) k_ hk⟩)); (case aO => exact (by (with_reducible repeat (first | apply Kd.R_alloc | apply Kd.R_drewN | apply Kd.R_drew)); exact Kd.R_mono HO605.out (fun _ hk => ⟨hk.1.2, hk.2⟩))); (case aS => exact (below_size (by repeat (first | (with_reducible first | exact HB.out | apply below_alloc | apply pw_below_drewN | apply below_drew1) | exact HB.out)))); (case aL => have := LMc16.out; omega); intro v607 w21 ho hb hg hat; rw [← Ny606.out] at ho; have n0_ := Aside0.mk (Kd.R_after (ok := (fun k_ => some k_ ≠ (.slice Ao22 t598.length co22 : Value).ownBlock)) (by (with_reducible repeat (first | apply Kd.R_alloc | apply Kd.R_drewN | apply Kd.R_drew)); exact HO_5.out) hg hat); have n1_ := Aside0.mk (Kd.R_after (ok := (fun k_ => some k_ ≠ (.slice Ao19 t594.length co19 : Value).ownBlock)) (by (with_reducible repeat (first | apply Kd.R_alloc | apply Kd.R_drewN | apply Kd.R_drew)); exact HO_7.out) hg hat); have n2_ := Aside0.mk (hb); have n3_ := Aside0.mk (ho); clear HO_5; clear HO_7; clear HB; clear HO605; have HO_5 := n0_; have HO_7 := n1_; have HB := n2_; have HO608 := n3_; clear n0_ n1_ n2_ n3_; clear ho hb hg hat; obtain ⟨Ao23, co23, eo23⟩ := Kd.R_slice HO608.out; subst eo23) | ((with_reducible refine gate_callee (f := 12) rfl ?_); refine goesL_ (some 47) rfl rfl Try.func12 (by kernel_rfl) rfl #[.slice Ao23 y606.length co23] rfl (by (try simp only [List.map_toArray, List.map_cons, List.map_nil]); first | done | rfl | (simp only [List.length_drop, List.length_take]; rfl) | (go_simp; done) | (go_simp; rfl)) ?_; (with_reducible refine (dots_Strip.calls kj7 _ _ y606 t609 t610 t611 _ ?side1 ?side2 ?side3 A17.out).mono ?_); (case side1 => repeat (first | exact (Kd.R_reads' HO608.out).2.2 | (with_reducible refine Kd.C_alloc ?_ _) | (with_reducible refine Kd.C_drewN ?_ _) | (with_reducible refine Kd.C_drew ?_))); (case side2 => exact (Kd.R_reads' HO608.out).2.1); (case side3 => first | exact HG.out | exact GOK_below HG.out (by repeat (first | (with_reducible first | exact HB.out | apply below_alloc | apply pw_below_drewN | apply below_drew1) | exact HB.out))); rintro e w24 ⟨v612, rfl, ho0, hb⟩; refine ⟨_, rfl, ?_⟩; have n0_ := Aside0.mk (Kd.R_elder' (by (with_reducible repeat (first | apply Kd.R_alloc | apply Kd.R_drewN | apply Kd.R_drew)); exact HO_5.out) (Kd.R_base ho0) hb); have n1_ := Aside0.mk (Kd.R_elder' (by (with_reducible repeat (first | apply Kd.R_alloc | apply Kd.R_drewN | apply Kd.R_drew)); exact HO_7.out) (Kd.R_base ho0) hb); have n2_ := Aside0.mk (Kd.R_elder' (by (with_reducible repeat (first | apply Kd.R_alloc | apply Kd.R_drewN | apply Kd.R_drew)); exact HO608.out) (Kd.R_base ho0) hb); have n3_ := Aside0.mk (Kd.R_lower (Kd.R_new' (Kd.R_new' (Kd.R_new' ho0 (Kd.R_lt (by (with_reducible repeat (first | apply Kd.R_alloc | apply Kd.R_drewN | apply Kd.R_drew)); exact HO_5.out))) (Kd.R_lt (by (with_reducible repeat (first | apply Kd.R_alloc | apply Kd.R_drewN | apply Kd.R_drew)); exact HO_7.out))) (Kd.R_lt (by (with_reducible repeat (first | apply Kd.R_alloc | apply Kd.R_drewN | apply Kd.R_drew)); exact HO608.out))) (below_size (by repeat (first | (with_reducible first | exact HB.out | apply below_alloc | apply pw_below_drewN | apply below_drew1) | exact HB.out)))); have n4_ := Aside0.mk (below_step (by repeat (first | (with_reducible first | exact HB.out | apply below_alloc | apply pw_below_drewN | apply below_drew1) | exact HB.out)) hb); clear HO_5; clear HO_7; clear HO608; clear HB; have HO_5 := n0_; have HO_7 := n1_; have HO608 := n2_; have HO613 := n3_; have HB := n4_; clear n0_ n1_ n2_ n3_ n4_; (try clear hb); (try clear hb2); (try clear hk); (try clear hi); (try clear ho0)))
        (try simp only [Act.put, List.setIfInBounds_toArray, List.set_cons_zero, List.set_cons_succ])
        go_cut [62] (fun v62 wc => ∃ (kq : Nat) (x62_17 : Bool), v62 = .bool x62_17 ∧ Aside0 (wherrylaw14_DotsTwo.j2 kq l0 l1 y606 t609 t610 x62_17 = some r) ∧ Aside0 (kq ≤ kj7) ∧ Aside0 (Kd.R (Kd.int .u8) 5 wc w.heap.size (fun k_ => some k_ ≠ (v612 : Value).ownBlock) (.slice Ao23 y606.length co23) y606) ∧ Aside0 (Kd.R (Kd.int .u8) 5 wc w.heap.size (fun k_ => some k_ ≠ ((.slice Ao23 y606.length co23) : Value).ownBlock) v612 t609) ∧ Aside0 (Below w.heap.size w wc))
        case first =>
         have H := HC18.out
         clear HC18
         by_cases c25 : t611 = 0
         ·rw [if_pos c25] at H
          have c25b0 : (t611 == 0) = true := beq_iff_eq.mpr c25
          have c25b1 : (t611 != 0) = false := bne_eq_false_iff_eq.mpr c25
          clear c25
          (first | rw [c25b0] | (simp only [i64_w, i32_w]; rw [c25b0]) | skip)
          by_cases c26 : t610 < 0
          ·rw [if_pos c26] at H
           have c26b0 : decide (t610 < 0) = true := decide_eq_true c26
           clear c26
           have H' := Aside0.mk H
           clear H
           go_wp2
           go_meet
           case rel => exact ⟨_, (true), (by first | rfl | (simp; done) | (simp [*]; done)), H', ⟨by have := HJ2.out; have := HJ7.out; first | omega | exact Nat.le_refl _⟩, ⟨by (with_reducible repeat (first | apply Kd.R_alloc | apply Kd.R_drewN | apply Kd.R_drew)); exact Kd.R_mono HO608.out (fun _ hk => hk.2)⟩, ⟨by (with_reducible repeat (first | apply Kd.R_alloc | apply Kd.R_drewN | apply Kd.R_drew)); exact Kd.R_mono HO613.out (fun _ hk => hk.2)⟩, ⟨by repeat (first | (with_reducible first | exact HB.out | apply below_alloc | apply pw_below_drewN | apply below_drew1) | exact HB.out)⟩⟩
          ·rw [if_neg c26] at H
           have c26b0 : decide (t610 < 0) = false := decide_eq_false c26
           clear c26
           have H' := Aside0.mk H
           clear H
           go_wp2
           go_meet
           case rel => exact ⟨_, (decide (t610 > (y606.length : Int))), (by first | rfl | (simp; done) | (simp [*]; done)), H', ⟨by have := HJ2.out; have := HJ7.out; first | omega | exact Nat.le_refl _⟩, ⟨by (with_reducible repeat (first | apply Kd.R_alloc | apply Kd.R_drewN | apply Kd.R_drew)); exact Kd.R_mono HO608.out (fun _ hk => hk.2)⟩, ⟨by (with_reducible repeat (first | apply Kd.R_alloc | apply Kd.R_drewN | apply Kd.R_drew)); exact Kd.R_mono HO613.out (fun _ hk => hk.2)⟩, ⟨by repeat (first | (with_reducible first | exact HB.out | apply below_alloc | apply pw_below_drewN | apply below_drew1) | exact HB.out)⟩⟩
         ·rw [if_neg c25] at H
          have c25b0 : (t611 == 0) = false := beq_eq_false_iff_ne.mpr c25
          have c25b1 : (t611 != 0) = true := bne_iff_ne.mpr c25
          (first | rw [c25b0] | (simp only [i64_w, i32_w]; rw [c25b0]) | skip)
          have H' := Aside0.mk H
          clear H
          go_wp2
          go_meet
          case rel => exact ⟨_, (true), (by first | rfl | (simp; done) | (simp [*]; done)), H', ⟨by have := HJ2.out; have := HJ7.out; first | omega | exact Nat.le_refl _⟩, ⟨by (with_reducible repeat (first | apply Kd.R_alloc | apply Kd.R_drewN | apply Kd.R_drew)); exact Kd.R_mono HO608.out (fun _ hk => hk.2)⟩, ⟨by (with_reducible repeat (first | apply Kd.R_alloc | apply Kd.R_drewN | apply Kd.R_drew)); exact Kd.R_mono HO613.out (fun _ hk => hk.2)⟩, ⟨by repeat (first | (with_reducible first | exact HB.out | apply below_alloc | apply pw_below_drewN | apply below_drew1) | exact HB.out)⟩⟩
        case rest =>
         clear HC18
         try clear c1
         try clear c2
         try clear p2
         try clear c4
         try clear c4b0
         try clear c4b1
         try clear c5
         try clear c9
         try clear c10
         try clear c11
         try clear c11b0
         try clear c11b1
         try clear c12
         try clear c16
         try clear c21
         try clear c25
         try clear c25b0
         try clear c25b1
         try clear c26
         try clear c26b0
         try clear p2
         obtain ⟨kq, x62_17, rfl, HA, HJ17, HO_9, HO_10, HB⟩ := hcut
         cases kq with
         | zero => exact absurd HA.out (by simp [wherrylaw14_DotsTwo.j2])
         | succ kj17 =>
          have H := HA.out
          clear HA
          simp only [wherrylaw14_DotsTwo.j2] at H
          by_cases c27 : x62_17 = true
          ·subst c27
           have H1 : (some false) = some r := by rw [if_pos rfl] at H; exact H
           clear H
           have H := H1
           clear H1
           obtain rfl := Option.some.inj H
           go_wp2
           go_ret
           exact ⟨by first | rfl | (simp [errW_none, errW_some] <;> rfl) | (simp [*, errW_none, errW_some] <;> rfl), by repeat (first | (with_reducible first | exact HB.out | apply below_alloc | apply pw_below_drewN | apply below_drew1) | exact HB.out)⟩
          ·replace c27 := Bool.eq_false_iff.mpr c27
           subst c27
           have H1 : (if 0 ≤ t610 then (if t610 ≤ (y606.length : Int) then ((dots_Strip.f kj17 (y606.drop (t610 : Int).toNat)).bind fun bt618 => (if bt618.2.2 = 0 then (if (wrap64 (t610 + bt618.2.1)) = (y606.length : Int) then ((wherrykeep_Bytes.f kj17 t609 l0).bind fun t623 => (if t623 = true then ((wherrykeep_Bytes.f kj17 bt618.1 l1).bind fun t624 => (if t624 = true then ((wherrylaw14_wakes.f kj17).bind fun t625 => (some t625)) else (some false))) else (some false))) else (some false)) else (some false))) else (none)) else (none)) = some r := by rw [if_neg (show ¬ (false = true) by decide)] at H; exact H
           clear H
           have H := H1
           clear H1
           by_cases c28 : 0 ≤ t610
           ·rw [if_pos c28] at H
            have c28b0 := eq_true c28
            have c28b1 : decide (0 ≤ t610) = true := decide_eq_true c28
            clear c28
            by_cases c29 : t610 ≤ (y606.length : Int)
            ·rw [if_pos c29] at H
             have c29b0 := eq_true c29
             have c29b1 : decide (t610 ≤ (y606.length : Int)) = true := decide_eq_true c29
             clear c29
             obtain ⟨y614, hy614⟩ : ∃ y_ : List Int, y_ = (y606.drop (t610 : Int).toNat) := ⟨_, rfl⟩
             replace H : ((dots_Strip.f kj17 y614).bind fun bt618 => (if bt618.2.2 = 0 then (if (wrap64 (t610 + bt618.2.1)) = (y606.length : Int) then ((wherrykeep_Bytes.f kj17 t609 l0).bind fun t623 => (if t623 = true then ((wherrykeep_Bytes.f kj17 bt618.1 l1).bind fun t624 => (if t624 = true then ((wherrylaw14_wakes.f kj17).bind fun t625 => (some t625)) else (some false))) else (some false))) else (some false)) else (some false))) = some r := by first | (rw [hy614]; with_reducible exact H) | (have H2_ := (Option.bind_some _ _).symm.trans H; rw [hy614]; with_reducible exact H2_) | (have H2_ := (Option.bind_some _ _).symm.trans H; with_reducible exact H2_) | with_reducible exact H | (rw [hy614]; exact H) | exact H
             have Ny614 := Aside0.mk hy614
             clear hy614
             replace H := Option.bind_eq_some_iff.mp H
             obtain ⟨⟨t618, t619, t620⟩, A300, H⟩ := H
             replace H : (if t620 = 0 then (if (wrap64 (t610 + t619)) = (y606.length : Int) then ((wherrykeep_Bytes.f kj17 t609 l0).bind fun t623 => (if t623 = true then ((wherrykeep_Bytes.f kj17 t618 l1).bind fun t624 => (if t624 = true then ((wherrylaw14_wakes.f kj17).bind fun t625 => (some t625)) else (some false))) else (some false))) else (some false)) else (some false)) = some r := H
             have A30 := Aside0.mk A300
             clear A300
             by_cases c31 : t620 = 0
             ·rw [if_pos c31] at H
              have c31b0 : (t620 == 0) = true := beq_iff_eq.mpr c31
              have c31b1 : (t620 != 0) = false := bne_eq_false_iff_eq.mpr c31
              clear c31
              by_cases c32 : (wrap64 (t610 + t619)) = (y606.length : Int)
              ·rw [if_pos c32] at H
               have c32b0 : ((wrap64 (t610 + t619)) == (y606.length : Int)) = true := beq_iff_eq.mpr c32
               have c32b1 : ((wrap64 (t610 + t619)) != (y606.length : Int)) = false := bne_eq_false_iff_eq.mpr c32
               clear c32
               replace H := Option.bind_eq_some_iff.mp H
               obtain ⟨t623, A330, H⟩ := H
               replace H : (if t623 = true then ((wherrykeep_Bytes.f kj17 t618 l1).bind fun t624 => (if t624 = true then ((wherrylaw14_wakes.f kj17).bind fun t625 => (some t625)) else (some false))) else (some false)) = some r := H
               have A33 := Aside0.mk A330
               clear A330
               by_cases c34 : t623 = true
               ·subst c34
                have H1 : ((wherrykeep_Bytes.f kj17 t618 l1).bind fun t624 => (if t624 = true then ((wherrylaw14_wakes.f kj17).bind fun t625 => (some t625)) else (some false))) = some r := by rw [if_pos rfl] at H; exact H
                clear H
                have H := H1
                clear H1
                replace H := Option.bind_eq_some_iff.mp H
                obtain ⟨t624, A350, H⟩ := H
                replace H : (if t624 = true then ((wherrylaw14_wakes.f kj17).bind fun t625 => (some t625)) else (some false)) = some r := H
                have A35 := Aside0.mk A350
                clear A350
                by_cases c36 : t624 = true
                ·subst c36
                 have H1 : ((wherrylaw14_wakes.f kj17).bind fun t625 => (some t625)) = some r := by rw [if_pos rfl] at H; exact H
                 clear H
                 have H := H1
                 clear H1
                 replace H := Option.bind_eq_some_iff.mp H
                 obtain ⟨t625, A370, H⟩ := H
                 replace H : (some t625) = some r := H
                 have A37 := Aside0.mk A370
                 clear A370
                 obtain rfl := Option.some.inj H
                 have q38 : (t610 : Int) ≤ ((y606.length : Int) : Int) := of_decide_eq_true (by first | (with_reducible assumption) | assumption)
                 obtain ⟨i038, hi038, _, hsz38, _⟩ := info_parts info5
                 have hroom38 : y606.length ≤ co23 := (Kd.R_reads' HO_9.out).2.1
                 have hC38 : Kd.C (Kd.int .u8) _ Ao23 y606.length y606 := (Kd.R_reads' HO_9.out).2.2
                 have q038 : (0 : Int) ≤ (t610 : Int) := of_decide_eq_true (by first | (with_reducible assumption) | assumption)
                 have hcut38 := cut_from (P := Try.prog) 22 5 .i64 Try.underlying22 hi038 1 hsz38 Ao23 y606.length co23 t610 q038 q38
                 have hr38 := Kd.C_drop (m := (t610 : Int).toNat) (c := co23) hC38 (by omega) hroom38
                 obtain ⟨A38, hA38⟩ : ∃ A1, A1 = (if co23 = (t610 : Int).toNat then Ao23 else (Ao23 : Option Addr).map (·.add ((t610 : Int).toNat * 1))) := ⟨_, rfl⟩
                 obtain ⟨c38, hc38⟩ : ∃ c1, c1 = co23 - (t610 : Int).toNat := ⟨_, rfl⟩
                 have hy38 : y614.length = y606.length - (t610 : Int).toNat := (by rw [Ny614.out, List.length_drop] <;> omega)
                 rw [show (y606).drop (t610 : Int).toNat = y614 from Ny614.out.symm] at hr38
                 replace hr38 : Kd.C (Kd.int .u8) _ A38 y614.length y614 := (by rw [hA38]; exact hr38)
                 rw [← hy38, ← hA38, ← hc38] at hcut38
                 have HR617 := Aside0.mk hr38
                 have HC617 := Aside0.mk (show y614.length ≤ c38 from by rw [hy38, hc38]; exact Nat.sub_le_sub_right hroom38 _)
                 clear hr38 hC38 hroom38 hi038 hsz38 hc38
                 have KY38 := Aside0.mk hy38
                 have KA38 := Aside0.mk hA38
                 clear hy38 hA38
                 have KL38 := Aside0.mk (show (t610 : Int).toNat ≤ y606.length from by omega)
                 replace q38 := eq_true q38
                 go_wp2_with (first | ((with_reducible refine gate_callee (f := 12) rfl ?_); refine goesL_ (some 67) rfl rfl Try.func12 (by kernel_rfl) rfl #[.slice A38 y614.length c38] rfl (by (try simp only [List.map_toArray, List.map_cons, List.map_nil]); first | done | rfl | (simp only [List.length_drop, List.length_take]; rfl) | (go_simp; done) | (go_simp; rfl)) ?_; (with_reducible refine (dots_Strip.calls kj17 _ _ y614 t618 t619 t620 _ ?side1 ?side2 ?side3 A30.out).mono ?_); (case side1 => repeat (first | exact (by repeat (first | (with_reducible exact HR617.out) | (with_reducible refine Kd.C_alloc ?_ _) | (with_reducible refine Kd.C_drewN ?_ _) | (with_reducible refine Kd.C_drew ?_) | exact HR617.out)) | (with_reducible refine Kd.C_alloc ?_ _) | (with_reducible refine Kd.C_drewN ?_ _) | (with_reducible refine Kd.C_drew ?_))); (case side2 => exact HC617.out); (case side3 => first | exact HG.out | exact GOK_below HG.out (by repeat (first | (with_reducible first | exact HB.out | apply below_alloc | apply pw_below_drewN | apply below_drew1) | exact HB.out))); rintro e w39 ⟨v621, rfl, ho0, hb⟩; refine ⟨_, rfl, ?_⟩; have n0_ := Aside0.mk (Kd.R_elder' (by (with_reducible repeat (first | apply Kd.R_alloc | apply Kd.R_drewN | apply Kd.R_drew)); exact HO_9.out) (Kd.R_base ho0) hb); have n1_ := Aside0.mk (Kd.R_elder' (by (with_reducible repeat (first | apply Kd.R_alloc | apply Kd.R_drewN | apply Kd.R_drew)); exact HO_10.out) (Kd.R_base ho0) hb); have n2_ := Aside0.mk (Kd.R_lower (Kd.R_new' (Kd.R_new' ho0 (Kd.R_lt (by (with_reducible repeat (first | apply Kd.R_alloc | apply Kd.R_drewN | apply Kd.R_drew)); exact HO_9.out))) (Kd.R_lt (by (with_reducible repeat (first | apply Kd.R_alloc | apply Kd.R_drewN | apply Kd.R_drew)); exact HO_10.out))) (below_size (by repeat (first | (with_reducible first | exact HB.out | apply below_alloc | apply pw_below_drewN | apply below_drew1) | exact HB.out)))); have n3_ := Aside0.mk (Kd.C_below (by repeat (first | (with_reducible exact HR617.out) | (with_reducible refine Kd.C_alloc ?_ _) | (with_reducible refine Kd.C_drewN ?_ _) | (with_reducible refine Kd.C_drew ?_) | exact HR617.out)) hb); have n4_ := Aside0.mk (below_step (by repeat (first | (with_reducible first | exact HB.out | apply below_alloc | apply pw_below_drewN | apply below_drew1) | exact HB.out)) hb); clear HO_9; clear HO_10; clear HR617; clear HB; have HO_9 := n0_; have HO_10 := n1_; have HO622 := n2_; have HR617 := n3_; have HB := n4_; clear n0_ n1_ n2_ n3_ n4_; (try clear hb); (try clear hb2); (try clear hk); (try clear hi); (try clear ho0); obtain ⟨Ao40, co40, eo40⟩ := Kd.R_slice HO_10.out; subst eo40) | (go_at_call 18; (with_reducible refine (wherrykeep_Bytes.calls kj17 _ _ t609 _ _ l0 true _ ?side1 ?side2 ?side3 ?side4 A33.out).mono ?_); (case side1 => repeat (first | exact (Kd.R_reads' HO_10.out).2.2 | (with_reducible refine Kd.C_alloc ?_ _) | (with_reducible refine Kd.C_drewN ?_ _) | (with_reducible refine Kd.C_drew ?_))); (case side2 => exact (Kd.R_reads' HO_10.out).2.1); (case side3 => repeat (first | exact (Kd.C_below HR0.out HB.out) | (with_reducible refine Kd.C_alloc ?_ _) | (with_reducible refine Kd.C_drewN ?_ _) | (with_reducible refine Kd.C_drew ?_))); (case side4 => exact HC0.out); rintro e w' ⟨rfl, ⟨nd, rfl⟩⟩; obtain ⟨Ao41, co41, eo41⟩ := Kd.R_slice HO622.out; subst eo41) | (go_at_call 18; (with_reducible refine (wherrykeep_Bytes.calls kj17 _ _ t618 _ _ l1 true _ ?side1 ?side2 ?side3 ?side4 A35.out).mono ?_); (case side1 => repeat (first | exact (Kd.R_reads' HO622.out).2.2 | (with_reducible refine Kd.C_alloc ?_ _) | (with_reducible refine Kd.C_drewN ?_ _) | (with_reducible refine Kd.C_drew ?_))); (case side2 => exact (Kd.R_reads' HO622.out).2.1); (case side3 => repeat (first | exact (Kd.C_below HR1.out (by repeat (first | (with_reducible first | exact HB.out | apply below_alloc | apply pw_below_drewN | apply below_drew1) | exact HB.out))) | (with_reducible refine Kd.C_alloc ?_ _) | (with_reducible refine Kd.C_drewN ?_ _) | (with_reducible refine Kd.C_drew ?_))); (case side4 => exact HC1.out); rintro e w' ⟨rfl, ⟨nd, rfl⟩⟩) | (go_at_call 21; (with_reducible refine (wherrylaw14_wakes.calls kj17  t625 _ ?side1 A37.out).mono ?_); (case side1 => first | exact HG.out | exact GOK_below HG.out (by repeat (first | (with_reducible first | exact HB.out | apply below_alloc | apply pw_below_drewN | apply below_drew1) | exact HB.out))); rintro e w42 ⟨rfl, hb⟩; have n0_ := Aside0.mk (Kd.R_below (by (with_reducible repeat (first | apply Kd.R_alloc | apply Kd.R_drewN | apply Kd.R_drew)); exact HO_9.out) hb); have n1_ := Aside0.mk (Kd.R_below (by (with_reducible repeat (first | apply Kd.R_alloc | apply Kd.R_drewN | apply Kd.R_drew)); exact HO_10.out) hb); have n2_ := Aside0.mk (Kd.R_below (by (with_reducible repeat (first | apply Kd.R_alloc | apply Kd.R_drewN | apply Kd.R_drew)); exact HO622.out) hb); have n3_ := Aside0.mk (Kd.C_below (by repeat (first | (with_reducible exact HR617.out) | (with_reducible refine Kd.C_alloc ?_ _) | (with_reducible refine Kd.C_drewN ?_ _) | (with_reducible refine Kd.C_drew ?_) | exact HR617.out)) hb); have n4_ := Aside0.mk (below_step (by repeat (first | (with_reducible first | exact HB.out | apply below_alloc | apply pw_below_drewN | apply below_drew1) | exact HB.out)) hb); clear HO_9; clear HO_10; clear HO622; clear HR617; clear HB; have HO_9 := n0_; have HO_10 := n1_; have HO622 := n2_; have HR617 := n3_; have HB := n4_; clear n0_ n1_ n2_ n3_ n4_; (try clear hb); (try clear hb2); (try clear hk); (try clear hi)))
                 go_ret
                 exact ⟨by first | rfl | (simp [errW_none, errW_some] <;> rfl) | (simp [*, errW_none, errW_some] <;> rfl), by repeat (first | (with_reducible first | exact HB.out | apply below_alloc | apply pw_below_drewN | apply below_drew1) | exact HB.out)⟩
                ·replace c36 := Bool.eq_false_iff.mpr c36
                 subst c36
                 have H1 : (some false) = some r := by rw [if_neg (show ¬ (false = true) by decide)] at H; exact H
                 clear H
                 have H := H1
                 clear H1
                 obtain rfl := Option.some.inj H
                 have q43 : (t610 : Int) ≤ ((y606.length : Int) : Int) := of_decide_eq_true (by first | (with_reducible assumption) | assumption)
                 obtain ⟨i043, hi043, _, hsz43, _⟩ := info_parts info5
                 have hroom43 : y606.length ≤ co23 := (Kd.R_reads' HO_9.out).2.1
                 have hC43 : Kd.C (Kd.int .u8) _ Ao23 y606.length y606 := (Kd.R_reads' HO_9.out).2.2
                 have q043 : (0 : Int) ≤ (t610 : Int) := of_decide_eq_true (by first | (with_reducible assumption) | assumption)
                 have hcut43 := cut_from (P := Try.prog) 22 5 .i64 Try.underlying22 hi043 1 hsz43 Ao23 y606.length co23 t610 q043 q43
                 have hr43 := Kd.C_drop (m := (t610 : Int).toNat) (c := co23) hC43 (by omega) hroom43
                 obtain ⟨A43, hA43⟩ : ∃ A1, A1 = (if co23 = (t610 : Int).toNat then Ao23 else (Ao23 : Option Addr).map (·.add ((t610 : Int).toNat * 1))) := ⟨_, rfl⟩
                 obtain ⟨c43, hc43⟩ : ∃ c1, c1 = co23 - (t610 : Int).toNat := ⟨_, rfl⟩
                 have hy43 : y614.length = y606.length - (t610 : Int).toNat := (by rw [Ny614.out, List.length_drop] <;> omega)
                 rw [show (y606).drop (t610 : Int).toNat = y614 from Ny614.out.symm] at hr43
                 replace hr43 : Kd.C (Kd.int .u8) _ A43 y614.length y614 := (by rw [hA43]; exact hr43)
                 rw [← hy43, ← hA43, ← hc43] at hcut43
                 have HR617 := Aside0.mk hr43
                 have HC617 := Aside0.mk (show y614.length ≤ c43 from by rw [hy43, hc43]; exact Nat.sub_le_sub_right hroom43 _)
                 clear hr43 hC43 hroom43 hi043 hsz43 hc43
                 have KY43 := Aside0.mk hy43
                 have KA43 := Aside0.mk hA43
                 clear hy43 hA43
                 have KL43 := Aside0.mk (show (t610 : Int).toNat ≤ y606.length from by omega)
                 replace q43 := eq_true q43
                 go_wp2_with (first | ((with_reducible refine gate_callee (f := 12) rfl ?_); refine goesL_ (some 67) rfl rfl Try.func12 (by kernel_rfl) rfl #[.slice A43 y614.length c43] rfl (by (try simp only [List.map_toArray, List.map_cons, List.map_nil]); first | done | rfl | (simp only [List.length_drop, List.length_take]; rfl) | (go_simp; done) | (go_simp; rfl)) ?_; (with_reducible refine (dots_Strip.calls kj17 _ _ y614 t618 t619 t620 _ ?side1 ?side2 ?side3 A30.out).mono ?_); (case side1 => repeat (first | exact (by repeat (first | (with_reducible exact HR617.out) | (with_reducible refine Kd.C_alloc ?_ _) | (with_reducible refine Kd.C_drewN ?_ _) | (with_reducible refine Kd.C_drew ?_) | exact HR617.out)) | (with_reducible refine Kd.C_alloc ?_ _) | (with_reducible refine Kd.C_drewN ?_ _) | (with_reducible refine Kd.C_drew ?_))); (case side2 => exact HC617.out); (case side3 => first | exact HG.out | exact GOK_below HG.out (by repeat (first | (with_reducible first | exact HB.out | apply below_alloc | apply pw_below_drewN | apply below_drew1) | exact HB.out))); rintro e w44 ⟨v621, rfl, ho0, hb⟩; refine ⟨_, rfl, ?_⟩; have n0_ := Aside0.mk (Kd.R_elder' (by (with_reducible repeat (first | apply Kd.R_alloc | apply Kd.R_drewN | apply Kd.R_drew)); exact HO_9.out) (Kd.R_base ho0) hb); have n1_ := Aside0.mk (Kd.R_elder' (by (with_reducible repeat (first | apply Kd.R_alloc | apply Kd.R_drewN | apply Kd.R_drew)); exact HO_10.out) (Kd.R_base ho0) hb); have n2_ := Aside0.mk (Kd.R_lower (Kd.R_new' (Kd.R_new' ho0 (Kd.R_lt (by (with_reducible repeat (first | apply Kd.R_alloc | apply Kd.R_drewN | apply Kd.R_drew)); exact HO_9.out))) (Kd.R_lt (by (with_reducible repeat (first | apply Kd.R_alloc | apply Kd.R_drewN | apply Kd.R_drew)); exact HO_10.out))) (below_size (by repeat (first | (with_reducible first | exact HB.out | apply below_alloc | apply pw_below_drewN | apply below_drew1) | exact HB.out)))); have n3_ := Aside0.mk (Kd.C_below (by repeat (first | (with_reducible exact HR617.out) | (with_reducible refine Kd.C_alloc ?_ _) | (with_reducible refine Kd.C_drewN ?_ _) | (with_reducible refine Kd.C_drew ?_) | exact HR617.out)) hb); have n4_ := Aside0.mk (below_step (by repeat (first | (with_reducible first | exact HB.out | apply below_alloc | apply pw_below_drewN | apply below_drew1) | exact HB.out)) hb); clear HO_9; clear HO_10; clear HR617; clear HB; have HO_9 := n0_; have HO_10 := n1_; have HO622 := n2_; have HR617 := n3_; have HB := n4_; clear n0_ n1_ n2_ n3_ n4_; (try clear hb); (try clear hb2); (try clear hk); (try clear hi); (try clear ho0); obtain ⟨Ao45, co45, eo45⟩ := Kd.R_slice HO_10.out; subst eo45) | (go_at_call 18; (with_reducible refine (wherrykeep_Bytes.calls kj17 _ _ t609 _ _ l0 true _ ?side1 ?side2 ?side3 ?side4 A33.out).mono ?_); (case side1 => repeat (first | exact (Kd.R_reads' HO_10.out).2.2 | (with_reducible refine Kd.C_alloc ?_ _) | (with_reducible refine Kd.C_drewN ?_ _) | (with_reducible refine Kd.C_drew ?_))); (case side2 => exact (Kd.R_reads' HO_10.out).2.1); (case side3 => repeat (first | exact (Kd.C_below HR0.out HB.out) | (with_reducible refine Kd.C_alloc ?_ _) | (with_reducible refine Kd.C_drewN ?_ _) | (with_reducible refine Kd.C_drew ?_))); (case side4 => exact HC0.out); rintro e w' ⟨rfl, ⟨nd, rfl⟩⟩; obtain ⟨Ao46, co46, eo46⟩ := Kd.R_slice HO622.out; subst eo46) | (go_at_call 18; (with_reducible refine (wherrykeep_Bytes.calls kj17 _ _ t618 _ _ l1 false _ ?side1 ?side2 ?side3 ?side4 A35.out).mono ?_); (case side1 => repeat (first | exact (Kd.R_reads' HO622.out).2.2 | (with_reducible refine Kd.C_alloc ?_ _) | (with_reducible refine Kd.C_drewN ?_ _) | (with_reducible refine Kd.C_drew ?_))); (case side2 => exact (Kd.R_reads' HO622.out).2.1); (case side3 => repeat (first | exact (Kd.C_below HR1.out (by repeat (first | (with_reducible first | exact HB.out | apply below_alloc | apply pw_below_drewN | apply below_drew1) | exact HB.out))) | (with_reducible refine Kd.C_alloc ?_ _) | (with_reducible refine Kd.C_drewN ?_ _) | (with_reducible refine Kd.C_drew ?_))); (case side4 => exact HC1.out); rintro e w' ⟨rfl, ⟨nd, rfl⟩⟩))
                 go_ret
                 exact ⟨by first | rfl | (simp [errW_none, errW_some] <;> rfl) | (simp [*, errW_none, errW_some] <;> rfl), by repeat (first | (with_reducible first | exact HB.out | apply below_alloc | apply pw_below_drewN | apply below_drew1) | exact HB.out)⟩
               ·replace c34 := Bool.eq_false_iff.mpr c34
                subst c34
                have H1 : (some false) = some r := by rw [if_neg (show ¬ (false = true) by decide)] at H; exact H
                clear H
                have H := H1
                clear H1
                obtain rfl := Option.some.inj H
                have q47 : (t610 : Int) ≤ ((y606.length : Int) : Int) := of_decide_eq_true (by first | (with_reducible assumption) | assumption)
                obtain ⟨i047, hi047, _, hsz47, _⟩ := info_parts info5
                have hroom47 : y606.length ≤ co23 := (Kd.R_reads' HO_9.out).2.1
                have hC47 : Kd.C (Kd.int .u8) _ Ao23 y606.length y606 := (Kd.R_reads' HO_9.out).2.2
                have q047 : (0 : Int) ≤ (t610 : Int) := of_decide_eq_true (by first | (with_reducible assumption) | assumption)
                have hcut47 := cut_from (P := Try.prog) 22 5 .i64 Try.underlying22 hi047 1 hsz47 Ao23 y606.length co23 t610 q047 q47
                have hr47 := Kd.C_drop (m := (t610 : Int).toNat) (c := co23) hC47 (by omega) hroom47
                obtain ⟨A47, hA47⟩ : ∃ A1, A1 = (if co23 = (t610 : Int).toNat then Ao23 else (Ao23 : Option Addr).map (·.add ((t610 : Int).toNat * 1))) := ⟨_, rfl⟩
                obtain ⟨c47, hc47⟩ : ∃ c1, c1 = co23 - (t610 : Int).toNat := ⟨_, rfl⟩
                have hy47 : y614.length = y606.length - (t610 : Int).toNat := (by rw [Ny614.out, List.length_drop] <;> omega)
                rw [show (y606).drop (t610 : Int).toNat = y614 from Ny614.out.symm] at hr47
                replace hr47 : Kd.C (Kd.int .u8) _ A47 y614.length y614 := (by rw [hA47]; exact hr47)
                rw [← hy47, ← hA47, ← hc47] at hcut47
                have HR617 := Aside0.mk hr47
                have HC617 := Aside0.mk (show y614.length ≤ c47 from by rw [hy47, hc47]; exact Nat.sub_le_sub_right hroom47 _)
                clear hr47 hC47 hroom47 hi047 hsz47 hc47
                have KY47 := Aside0.mk hy47
                have KA47 := Aside0.mk hA47
                clear hy47 hA47
                have KL47 := Aside0.mk (show (t610 : Int).toNat ≤ y606.length from by omega)
                replace q47 := eq_true q47
                go_wp2_with (first | ((with_reducible refine gate_callee (f := 12) rfl ?_); refine goesL_ (some 67) rfl rfl Try.func12 (by kernel_rfl) rfl #[.slice A47 y614.length c47] rfl (by (try simp only [List.map_toArray, List.map_cons, List.map_nil]); first | done | rfl | (simp only [List.length_drop, List.length_take]; rfl) | (go_simp; done) | (go_simp; rfl)) ?_; (with_reducible refine (dots_Strip.calls kj17 _ _ y614 t618 t619 t620 _ ?side1 ?side2 ?side3 A30.out).mono ?_); (case side1 => repeat (first | exact (by repeat (first | (with_reducible exact HR617.out) | (with_reducible refine Kd.C_alloc ?_ _) | (with_reducible refine Kd.C_drewN ?_ _) | (with_reducible refine Kd.C_drew ?_) | exact HR617.out)) | (with_reducible refine Kd.C_alloc ?_ _) | (with_reducible refine Kd.C_drewN ?_ _) | (with_reducible refine Kd.C_drew ?_))); (case side2 => exact HC617.out); (case side3 => first | exact HG.out | exact GOK_below HG.out (by repeat (first | (with_reducible first | exact HB.out | apply below_alloc | apply pw_below_drewN | apply below_drew1) | exact HB.out))); rintro e w48 ⟨v621, rfl, ho0, hb⟩; refine ⟨_, rfl, ?_⟩; have n0_ := Aside0.mk (Kd.R_elder' (by (with_reducible repeat (first | apply Kd.R_alloc | apply Kd.R_drewN | apply Kd.R_drew)); exact HO_9.out) (Kd.R_base ho0) hb); have n1_ := Aside0.mk (Kd.R_elder' (by (with_reducible repeat (first | apply Kd.R_alloc | apply Kd.R_drewN | apply Kd.R_drew)); exact HO_10.out) (Kd.R_base ho0) hb); have n2_ := Aside0.mk (Kd.R_lower (Kd.R_new' (Kd.R_new' ho0 (Kd.R_lt (by (with_reducible repeat (first | apply Kd.R_alloc | apply Kd.R_drewN | apply Kd.R_drew)); exact HO_9.out))) (Kd.R_lt (by (with_reducible repeat (first | apply Kd.R_alloc | apply Kd.R_drewN | apply Kd.R_drew)); exact HO_10.out))) (below_size (by repeat (first | (with_reducible first | exact HB.out | apply below_alloc | apply pw_below_drewN | apply below_drew1) | exact HB.out)))); have n3_ := Aside0.mk (Kd.C_below (by repeat (first | (with_reducible exact HR617.out) | (with_reducible refine Kd.C_alloc ?_ _) | (with_reducible refine Kd.C_drewN ?_ _) | (with_reducible refine Kd.C_drew ?_) | exact HR617.out)) hb); have n4_ := Aside0.mk (below_step (by repeat (first | (with_reducible first | exact HB.out | apply below_alloc | apply pw_below_drewN | apply below_drew1) | exact HB.out)) hb); clear HO_9; clear HO_10; clear HR617; clear HB; have HO_9 := n0_; have HO_10 := n1_; have HO622 := n2_; have HR617 := n3_; have HB := n4_; clear n0_ n1_ n2_ n3_ n4_; (try clear hb); (try clear hb2); (try clear hk); (try clear hi); (try clear ho0); obtain ⟨Ao49, co49, eo49⟩ := Kd.R_slice HO_10.out; subst eo49) | (go_at_call 18; (with_reducible refine (wherrykeep_Bytes.calls kj17 _ _ t609 _ _ l0 false _ ?side1 ?side2 ?side3 ?side4 A33.out).mono ?_); (case side1 => repeat (first | exact (Kd.R_reads' HO_10.out).2.2 | (with_reducible refine Kd.C_alloc ?_ _) | (with_reducible refine Kd.C_drewN ?_ _) | (with_reducible refine Kd.C_drew ?_))); (case side2 => exact (Kd.R_reads' HO_10.out).2.1); (case side3 => repeat (first | exact (Kd.C_below HR0.out HB.out) | (with_reducible refine Kd.C_alloc ?_ _) | (with_reducible refine Kd.C_drewN ?_ _) | (with_reducible refine Kd.C_drew ?_))); (case side4 => exact HC0.out); rintro e w' ⟨rfl, ⟨nd, rfl⟩⟩))
                go_ret
                exact ⟨by first | rfl | (simp [errW_none, errW_some] <;> rfl) | (simp [*, errW_none, errW_some] <;> rfl), by repeat (first | (with_reducible first | exact HB.out | apply below_alloc | apply pw_below_drewN | apply below_drew1) | exact HB.out)⟩
              ·rw [if_neg c32] at H
               have c32b0 : ((wrap64 (t610 + t619)) == (y606.length : Int)) = false := beq_eq_false_iff_ne.mpr c32
               have c32b1 : ((wrap64 (t610 + t619)) != (y606.length : Int)) = true := bne_iff_ne.mpr c32
               obtain rfl := Option.some.inj H
               have q50 : (t610 : Int) ≤ ((y606.length : Int) : Int) := of_decide_eq_true (by first | (with_reducible assumption) | assumption)
               obtain ⟨i050, hi050, _, hsz50, _⟩ := info_parts info5
               have hroom50 : y606.length ≤ co23 := (Kd.R_reads' HO_9.out).2.1
               have hC50 : Kd.C (Kd.int .u8) _ Ao23 y606.length y606 := (Kd.R_reads' HO_9.out).2.2
               have q050 : (0 : Int) ≤ (t610 : Int) := of_decide_eq_true (by first | (with_reducible assumption) | assumption)
               have hcut50 := cut_from (P := Try.prog) 22 5 .i64 Try.underlying22 hi050 1 hsz50 Ao23 y606.length co23 t610 q050 q50
               have hr50 := Kd.C_drop (m := (t610 : Int).toNat) (c := co23) hC50 (by omega) hroom50
               obtain ⟨A50, hA50⟩ : ∃ A1, A1 = (if co23 = (t610 : Int).toNat then Ao23 else (Ao23 : Option Addr).map (·.add ((t610 : Int).toNat * 1))) := ⟨_, rfl⟩
               obtain ⟨c50, hc50⟩ : ∃ c1, c1 = co23 - (t610 : Int).toNat := ⟨_, rfl⟩
               have hy50 : y614.length = y606.length - (t610 : Int).toNat := (by rw [Ny614.out, List.length_drop] <;> omega)
               rw [show (y606).drop (t610 : Int).toNat = y614 from Ny614.out.symm] at hr50
               replace hr50 : Kd.C (Kd.int .u8) _ A50 y614.length y614 := (by rw [hA50]; exact hr50)
               rw [← hy50, ← hA50, ← hc50] at hcut50
               have HR617 := Aside0.mk hr50
               have HC617 := Aside0.mk (show y614.length ≤ c50 from by rw [hy50, hc50]; exact Nat.sub_le_sub_right hroom50 _)
               clear hr50 hC50 hroom50 hi050 hsz50 hc50
               have KY50 := Aside0.mk hy50
               have KA50 := Aside0.mk hA50
               clear hy50 hA50
               have KL50 := Aside0.mk (show (t610 : Int).toNat ≤ y606.length from by omega)
               replace q50 := eq_true q50
               go_wp2_with (first | ((with_reducible refine gate_callee (f := 12) rfl ?_); refine goesL_ (some 67) rfl rfl Try.func12 (by kernel_rfl) rfl #[.slice A50 y614.length c50] rfl (by (try simp only [List.map_toArray, List.map_cons, List.map_nil]); first | done | rfl | (simp only [List.length_drop, List.length_take]; rfl) | (go_simp; done) | (go_simp; rfl)) ?_; (with_reducible refine (dots_Strip.calls kj17 _ _ y614 t618 t619 t620 _ ?side1 ?side2 ?side3 A30.out).mono ?_); (case side1 => repeat (first | exact (by repeat (first | (with_reducible exact HR617.out) | (with_reducible refine Kd.C_alloc ?_ _) | (with_reducible refine Kd.C_drewN ?_ _) | (with_reducible refine Kd.C_drew ?_) | exact HR617.out)) | (with_reducible refine Kd.C_alloc ?_ _) | (with_reducible refine Kd.C_drewN ?_ _) | (with_reducible refine Kd.C_drew ?_))); (case side2 => exact HC617.out); (case side3 => first | exact HG.out | exact GOK_below HG.out (by repeat (first | (with_reducible first | exact HB.out | apply below_alloc | apply pw_below_drewN | apply below_drew1) | exact HB.out))); rintro e w51 ⟨v621, rfl, ho0, hb⟩; refine ⟨_, rfl, ?_⟩; have n0_ := Aside0.mk (Kd.R_elder' (by (with_reducible repeat (first | apply Kd.R_alloc | apply Kd.R_drewN | apply Kd.R_drew)); exact HO_9.out) (Kd.R_base ho0) hb); have n1_ := Aside0.mk (Kd.R_elder' (by (with_reducible repeat (first | apply Kd.R_alloc | apply Kd.R_drewN | apply Kd.R_drew)); exact HO_10.out) (Kd.R_base ho0) hb); have n2_ := Aside0.mk (Kd.R_lower (Kd.R_new' (Kd.R_new' ho0 (Kd.R_lt (by (with_reducible repeat (first | apply Kd.R_alloc | apply Kd.R_drewN | apply Kd.R_drew)); exact HO_9.out))) (Kd.R_lt (by (with_reducible repeat (first | apply Kd.R_alloc | apply Kd.R_drewN | apply Kd.R_drew)); exact HO_10.out))) (below_size (by repeat (first | (with_reducible first | exact HB.out | apply below_alloc | apply pw_below_drewN | apply below_drew1) | exact HB.out)))); have n3_ := Aside0.mk (Kd.C_below (by repeat (first | (with_reducible exact HR617.out) | (with_reducible refine Kd.C_alloc ?_ _) | (with_reducible refine Kd.C_drewN ?_ _) | (with_reducible refine Kd.C_drew ?_) | exact HR617.out)) hb); have n4_ := Aside0.mk (below_step (by repeat (first | (with_reducible first | exact HB.out | apply below_alloc | apply pw_below_drewN | apply below_drew1) | exact HB.out)) hb); clear HO_9; clear HO_10; clear HR617; clear HB; have HO_9 := n0_; have HO_10 := n1_; have HO622 := n2_; have HR617 := n3_; have HB := n4_; clear n0_ n1_ n2_ n3_ n4_; (try clear hb); (try clear hb2); (try clear hk); (try clear hi); (try clear ho0)))
               go_ret
               exact ⟨by first | rfl | (simp [errW_none, errW_some] <;> rfl) | (simp [*, errW_none, errW_some] <;> rfl), by repeat (first | (with_reducible first | exact HB.out | apply below_alloc | apply pw_below_drewN | apply below_drew1) | exact HB.out)⟩
             ·rw [if_neg c31] at H
              have c31b0 : (t620 == 0) = false := beq_eq_false_iff_ne.mpr c31
              have c31b1 : (t620 != 0) = true := bne_iff_ne.mpr c31
              obtain rfl := Option.some.inj H
              have q52 : (t610 : Int) ≤ ((y606.length : Int) : Int) := of_decide_eq_true (by first | (with_reducible assumption) | assumption)
              obtain ⟨i052, hi052, _, hsz52, _⟩ := info_parts info5
              have hroom52 : y606.length ≤ co23 := (Kd.R_reads' HO_9.out).2.1
              have hC52 : Kd.C (Kd.int .u8) _ Ao23 y606.length y606 := (Kd.R_reads' HO_9.out).2.2
              have q052 : (0 : Int) ≤ (t610 : Int) := of_decide_eq_true (by first | (with_reducible assumption) | assumption)
              have hcut52 := cut_from (P := Try.prog) 22 5 .i64 Try.underlying22 hi052 1 hsz52 Ao23 y606.length co23 t610 q052 q52
              have hr52 := Kd.C_drop (m := (t610 : Int).toNat) (c := co23) hC52 (by omega) hroom52
              obtain ⟨A52, hA52⟩ : ∃ A1, A1 = (if co23 = (t610 : Int).toNat then Ao23 else (Ao23 : Option Addr).map (·.add ((t610 : Int).toNat * 1))) := ⟨_, rfl⟩
              obtain ⟨c52, hc52⟩ : ∃ c1, c1 = co23 - (t610 : Int).toNat := ⟨_, rfl⟩
              have hy52 : y614.length = y606.length - (t610 : Int).toNat := (by rw [Ny614.out, List.length_drop] <;> omega)
              rw [show (y606).drop (t610 : Int).toNat = y614 from Ny614.out.symm] at hr52
              replace hr52 : Kd.C (Kd.int .u8) _ A52 y614.length y614 := (by rw [hA52]; exact hr52)
              rw [← hy52, ← hA52, ← hc52] at hcut52
              have HR617 := Aside0.mk hr52
              have HC617 := Aside0.mk (show y614.length ≤ c52 from by rw [hy52, hc52]; exact Nat.sub_le_sub_right hroom52 _)
              clear hr52 hC52 hroom52 hi052 hsz52 hc52
              have KY52 := Aside0.mk hy52
              have KA52 := Aside0.mk hA52
              clear hy52 hA52
              have KL52 := Aside0.mk (show (t610 : Int).toNat ≤ y606.length from by omega)
              replace q52 := eq_true q52
              go_wp2_with (first | ((with_reducible refine gate_callee (f := 12) rfl ?_); refine goesL_ (some 67) rfl rfl Try.func12 (by kernel_rfl) rfl #[.slice A52 y614.length c52] rfl (by (try simp only [List.map_toArray, List.map_cons, List.map_nil]); first | done | rfl | (simp only [List.length_drop, List.length_take]; rfl) | (go_simp; done) | (go_simp; rfl)) ?_; (with_reducible refine (dots_Strip.calls kj17 _ _ y614 t618 t619 t620 _ ?side1 ?side2 ?side3 A30.out).mono ?_); (case side1 => repeat (first | exact (by repeat (first | (with_reducible exact HR617.out) | (with_reducible refine Kd.C_alloc ?_ _) | (with_reducible refine Kd.C_drewN ?_ _) | (with_reducible refine Kd.C_drew ?_) | exact HR617.out)) | (with_reducible refine Kd.C_alloc ?_ _) | (with_reducible refine Kd.C_drewN ?_ _) | (with_reducible refine Kd.C_drew ?_))); (case side2 => exact HC617.out); (case side3 => first | exact HG.out | exact GOK_below HG.out (by repeat (first | (with_reducible first | exact HB.out | apply below_alloc | apply pw_below_drewN | apply below_drew1) | exact HB.out))); rintro e w53 ⟨v621, rfl, ho0, hb⟩; refine ⟨_, rfl, ?_⟩; have n0_ := Aside0.mk (Kd.R_elder' (by (with_reducible repeat (first | apply Kd.R_alloc | apply Kd.R_drewN | apply Kd.R_drew)); exact HO_9.out) (Kd.R_base ho0) hb); have n1_ := Aside0.mk (Kd.R_elder' (by (with_reducible repeat (first | apply Kd.R_alloc | apply Kd.R_drewN | apply Kd.R_drew)); exact HO_10.out) (Kd.R_base ho0) hb); have n2_ := Aside0.mk (Kd.R_lower (Kd.R_new' (Kd.R_new' ho0 (Kd.R_lt (by (with_reducible repeat (first | apply Kd.R_alloc | apply Kd.R_drewN | apply Kd.R_drew)); exact HO_9.out))) (Kd.R_lt (by (with_reducible repeat (first | apply Kd.R_alloc | apply Kd.R_drewN | apply Kd.R_drew)); exact HO_10.out))) (below_size (by repeat (first | (with_reducible first | exact HB.out | apply below_alloc | apply pw_below_drewN | apply below_drew1) | exact HB.out)))); have n3_ := Aside0.mk (Kd.C_below (by repeat (first | (with_reducible exact HR617.out) | (with_reducible refine Kd.C_alloc ?_ _) | (with_reducible refine Kd.C_drewN ?_ _) | (with_reducible refine Kd.C_drew ?_) | exact HR617.out)) hb); have n4_ := Aside0.mk (below_step (by repeat (first | (with_reducible first | exact HB.out | apply below_alloc | apply pw_below_drewN | apply below_drew1) | exact HB.out)) hb); clear HO_9; clear HO_10; clear HR617; clear HB; have HO_9 := n0_; have HO_10 := n1_; have HO622 := n2_; have HR617 := n3_; have HB := n4_; clear n0_ n1_ n2_ n3_ n4_; (try clear hb); (try clear hb2); (try clear hk); (try clear hi); (try clear ho0)))
              go_ret
              exact ⟨by first | rfl | (simp [errW_none, errW_some] <;> rfl) | (simp [*, errW_none, errW_some] <;> rfl), by repeat (first | (with_reducible first | exact HB.out | apply below_alloc | apply pw_below_drewN | apply below_drew1) | exact HB.out)⟩
            ·rw [if_neg c29] at H
             exact absurd H (by simp)
           ·rw [if_neg c28] at H
            exact absurd H (by simp)
       ·rw [if_neg c16] at H
        exact absurd H (by simp)

end Go.Proofs.Ytmfobcheeekmfaa.FA
