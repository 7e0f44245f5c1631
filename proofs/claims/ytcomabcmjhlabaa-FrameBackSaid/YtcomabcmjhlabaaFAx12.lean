/- Functions of the program, each told as a plain Lean function, and that the program computes it: written by this session's own program. -/
import Derived.Test.YtcomabcmjhlabaaFAx0
import Derived.Test.YtcomabcmjhlabaaFAx2
import Derived.Test.YtcomabcmjhlabaaFAx6
namespace Go.Proofs.Ytcomabcmjhlabaa.FA
open Go.RowKit Go.Proofs.YtcomabcmjhlabaaW.PrintWords Go.Proofs.YtcomabcmjhlabaaW.PrintLast Go.Proofs.YtcomabcmjhlabaaW.PrintMore
attribute [local go_sem] max2_int min2_int max_two min_two max_three min_three max_four min_four   -- for this text's walks alone
set_option linter.unusedVariables false
set_option linter.unusedSimpArgs false

/-! ### frame_Spoil: function 21 -/
mutual
def frame_Spoil.l0 : Nat → Int → Int → List Int → Int → Int → Option (List Int)
 | 0, _, _, _, _, _ => none
 | k + 1, x1, x2, x7, x8, x9 => if x9 < 16 then (frame_Spoil.j1 k x1 x2 x7 x8 x9 (decide ((wrap64 (x1 + x9)) < x8))) else (frame_Spoil.j1 k x1 x2 x7 x8 x9 false)
def frame_Spoil.j1 : Nat → Int → Int → List Int → Int → Int → Bool → Option (List Int)
 | 0, _, _, _, _, _, _ => none
 | k + 1, x1, x2, x7, x8, x9, x33 => if x33 = true then (if x9 = 0 then (if 0 ≤ (wrap64 (Int.tdiv (wrap64 (x1 + x9)) 8)) then (if (wrap64 (Int.tdiv (wrap64 (x1 + x9)) 8)) < (x7.length : Int) then (if 0 ≤ (IntKind.u64.wrap (Int.tmod (wrap64 (x1 + x9)) 8)) then (frame_Spoil.l0 k x1 x2 (x7.set ((wrap64 (Int.tdiv (wrap64 (x1 + x9)) 8)) : Int).toNat (Go.bits .xor .u8 (rd x7 (wrap64 (Int.tdiv (wrap64 (x1 + x9)) 8))) (shl .u8 1 (IntKind.u64.wrap (Int.tmod (wrap64 (x1 + x9)) 8))))) x8 (wrap64 (x9 + 1))) else (none)) else (none)) else (none)) else (if 0 ≤ (IntKind.u64.wrap (x9)) then (if (Go.bits .and .i64 (shr .i64 x2 (IntKind.u64.wrap (x9))) 1) = 1 then (if 0 ≤ (wrap64 (Int.tdiv (wrap64 (x1 + x9)) 8)) then (if (wrap64 (Int.tdiv (wrap64 (x1 + x9)) 8)) < (x7.length : Int) then (if 0 ≤ (IntKind.u64.wrap (Int.tmod (wrap64 (x1 + x9)) 8)) then (frame_Spoil.l0 k x1 x2 (x7.set ((wrap64 (Int.tdiv (wrap64 (x1 + x9)) 8)) : Int).toNat (Go.bits .xor .u8 (rd x7 (wrap64 (Int.tdiv (wrap64 (x1 + x9)) 8))) (shl .u8 1 (IntKind.u64.wrap (Int.tmod (wrap64 (x1 + x9)) 8))))) x8 (wrap64 (x9 + 1))) else (none)) else (none)) else (none)) else (frame_Spoil.l0 k x1 x2 x7 x8 (wrap64 (x9 + 1)))) else (none))) else (some x7)
end
def frame_Spoil.f (k : Nat) (l0 : List Int) (a1 : Int) (a2 : Int) : Option (List Int) := (bytes_Clone.f l0).bind fun t351 => (if (wrap64 (8 * (l0.length : Int))) = 0 then (some t351) else (frame_Spoil.l0 k (Int.tmod (wrap64 ((Int.tmod a1 (wrap64 (8 * (l0.length : Int)))) + (wrap64 (8 * (l0.length : Int))))) (wrap64 (8 * (l0.length : Int)))) a2 t351 (wrap64 (8 * (l0.length : Int))) 0))
theorem frame_Spoil.mono_l : ∀ k, (∀ y0 y1 y2 y3 y4, LeO (frame_Spoil.l0 k y0 y1 y2 y3 y4) (frame_Spoil.l0 (k + 1) y0 y1 y2 y3 y4)) ∧ (∀ y0 y1 y2 y3 y4 y5, LeO (frame_Spoil.j1 k y0 y1 y2 y3 y4 y5) (frame_Spoil.j1 (k + 1) y0 y1 y2 y3 y4 y5))
 | 0 => ⟨fun _ _ _ _ _ r h => by simp [frame_Spoil.l0] at h, fun _ _ _ _ _ _ r h => by simp [frame_Spoil.j1] at h⟩
 | k + 1 => by
  obtain ⟨ih0, ih1⟩ := frame_Spoil.mono_l k
  refine ⟨?_, ?_⟩
  ·intro y0 y1 y2 y3 y4
   unfold frame_Spoil.l0
   repeat' first
   | (with_reducible exact ih0 _ _ _ _ _)
   | (with_reducible exact ih1 _ _ _ _ _ _)
   | (with_reducible exact LeO.refl _)
   | (with_reducible exact LeO.none _)
   | (with_reducible refine LeO.ite ?_ ?_)
   | (with_reducible refine LeO.bind ?_ (fun _ => ?_))
   | exact ih0 _ _ _ _ _
   | exact ih1 _ _ _ _ _ _
   | exact LeO.none _
   | refine LeO.ite ?_ ?_
   | refine LeO.bind ?_ (fun _ => ?_)
  ·intro y0 y1 y2 y3 y4 y5
   unfold frame_Spoil.j1
   repeat' first
   | (with_reducible exact ih0 _ _ _ _ _)
   | (with_reducible exact ih1 _ _ _ _ _ _)
   | (with_reducible exact LeO.refl _)
   | (with_reducible exact LeO.none _)
   | (with_reducible refine LeO.ite ?_ ?_)
   | (with_reducible refine LeO.bind ?_ (fun _ => ?_))
   | exact ih0 _ _ _ _ _
   | exact ih1 _ _ _ _ _ _
   | exact LeO.none _
   | refine LeO.ite ?_ ?_
   | refine LeO.bind ?_ (fun _ => ?_)
theorem frame_Spoil.mono : ∀ a0 a1 a2 k, LeO (frame_Spoil.f k a0 a1 a2) (frame_Spoil.f (k + 1) a0 a1 a2) := by
 intro a0 a1 a2 k
 obtain ⟨ih0, ih1⟩ := frame_Spoil.mono_l k
 unfold frame_Spoil.f
 repeat' first
   | (with_reducible exact ih0 _ _ _ _ _)
   | (with_reducible exact ih1 _ _ _ _ _ _)
   | (with_reducible exact LeO.refl _)
   | (with_reducible exact LeO.none _)
   | (with_reducible refine LeO.ite ?_ ?_)
   | (with_reducible refine LeO.bind ?_ (fun _ => ?_))
   | exact ih0 _ _ _ _ _
   | exact ih1 _ _ _ _ _ _
   | exact LeO.none _
   | refine LeO.ite ?_ ?_
   | refine LeO.bind ?_ (fun _ => ?_)
set_option maxHeartbeats 8000000 in
set_option maxRecDepth 100000 in
theorem frame_Spoil.calls (k : Nat) (A0 : Option Addr) (c0 : Nat) (l0 : List Int) (a1 : Int) (a2 : Int) (r : List Int) (w : World) (hr0 : Kd.C (Kd.int .u8) w A0 l0.length l0) (hc0 : l0.length ≤ c0) (h : frame_Spoil.f k l0 a1 a2 = some r) :
  Calls Try.prog 21 #[.slice A0 l0.length c0, .int .i64 a1, .int .i64 a2] w fun e w' => ∃ v0_ : Value, e = .returned (v0_) ∧ Kd.R (Kd.int .u8) 5 w' w.heap.size (fun _ => True) v0_ r ∧ Below w.heap.size w w' := by
 have HR0 := Aside0.mk hr0
 have HC0 := Aside0.mk hc0
 clear hr0 hc0
 have HB := Aside0.mk (Below.refl w.heap.size w)
 have H : ((bytes_Clone.f l0).bind fun t351 => (if (wrap64 (8 * (l0.length : Int))) = 0 then (some t351) else (frame_Spoil.l0 k (Int.tmod (wrap64 ((Int.tmod a1 (wrap64 (8 * (l0.length : Int)))) + (wrap64 (8 * (l0.length : Int))))) (wrap64 (8 * (l0.length : Int)))) a2 t351 (wrap64 (8 * (l0.length : Int))) 0))) = some r := h
 clear h
 replace H := Option.bind_eq_some_iff.mp H
 obtain ⟨t351, A40, H⟩ := H
 replace H : (if (wrap64 (8 * (l0.length : Int))) = 0 then (some t351) else (frame_Spoil.l0 k (Int.tmod (wrap64 ((Int.tmod a1 (wrap64 (8 * (l0.length : Int)))) + (wrap64 (8 * (l0.length : Int))))) (wrap64 (8 * (l0.length : Int)))) a2 t351 (wrap64 (8 * (l0.length : Int))) 0)) = some r := H
 have A4 := Aside0.mk A40
 clear A40
 by_cases c5 : (wrap64 (8 * (l0.length : Int))) = 0
 ·rw [if_pos c5] at H
  have c5b0 : ((wrap64 (8 * (l0.length : Int))) == 0) = true := beq_iff_eq.mpr c5
  have c5b1 : ((wrap64 (8 * (l0.length : Int))) != 0) = false := bne_eq_false_iff_eq.mpr c5
  clear c5
  obtain rfl := Option.some.inj H
  go_enter Try.func21, Try.ntmps21
  go_wp2_with (first | ((with_reducible refine gate_callee (f := 26) rfl ?_); refine goesL_ (some 11) rfl rfl Try.func26 (by kernel_rfl) rfl #[.slice A0 l0.length c0] rfl (by (try simp only [List.map_toArray, List.map_cons, List.map_nil]); first | done | rfl | (simp only [List.length_drop, List.length_take]; rfl) | (go_simp; done) | (go_simp; rfl)) ?_; (with_reducible refine (bytes_Clone.calls _ _ l0 t351 _ ?side1 ?side2 A4.out).mono ?_); (case side1 => repeat (first | exact HR0.out | (with_reducible refine Kd.C_alloc ?_ _) | (with_reducible refine Kd.C_drewN ?_ _) | (with_reducible refine Kd.C_drew ?_))); (case side2 => exact HC0.out); rintro e w6 ⟨v352, rfl, ho0, hb⟩; refine ⟨_, rfl, ?_⟩; have n0_ := Aside0.mk (Kd.R_lower ho0 (below_size (by repeat (first | (with_reducible first | exact HB.out | apply below_alloc | apply pw_below_drewN | apply below_drew1) | exact HB.out)))); have n1_ := Aside0.mk (below_step (by repeat (first | (with_reducible first | exact HB.out | apply below_alloc | apply pw_below_drewN | apply below_drew1) | exact HB.out)) hb); clear HB; have HO353 := n0_; have HB := n1_; clear n0_ n1_; (try clear hb); (try clear hb2); (try clear hk); (try clear hi); (try clear ho0)))
  go_ret
  exact ⟨_, by first | rfl | (simp [errW_none, errW_some] <;> rfl) | (simp [*, errW_none, errW_some] <;> rfl), by (with_reducible repeat (first | apply Kd.R_alloc | apply Kd.R_drewN | apply Kd.R_drew)); exact HO353.out, by repeat (first | (with_reducible first | exact HB.out | apply below_alloc | apply pw_below_drewN | apply below_drew1) | exact HB.out)⟩
 ·rw [if_neg c5] at H
  have c5b0 : ((wrap64 (8 * (l0.length : Int))) == 0) = false := beq_eq_false_iff_ne.mpr c5
  have c5b1 : ((wrap64 (8 * (l0.length : Int))) != 0) = true := bne_iff_ne.mpr c5
  have H' := Aside0.mk H
  clear H
  go_enter Try.func21, Try.ntmps21
  go_wp2_with (first | ((with_reducible refine gate_callee (f := 26) rfl ?_); refine goesL_ (some 11) rfl rfl Try.func26 (by kernel_rfl) rfl #[.slice A0 l0.length c0] rfl (by (try simp only [List.map_toArray, List.map_cons, List.map_nil]); first | done | rfl | (simp only [List.length_drop, List.length_take]; rfl) | (go_simp; done) | (go_simp; rfl)) ?_; (with_reducible refine (bytes_Clone.calls _ _ l0 t351 _ ?side1 ?side2 A4.out).mono ?_); (case side1 => repeat (first | exact HR0.out | (with_reducible refine Kd.C_alloc ?_ _) | (with_reducible refine Kd.C_drewN ?_ _) | (with_reducible refine Kd.C_drew ?_))); (case side2 => exact HC0.out); rintro e w7 ⟨v352, rfl, ho0, hb⟩; refine ⟨_, rfl, ?_⟩; have n0_ := Aside0.mk (Kd.R_lower ho0 (below_size (by repeat (first | (with_reducible first | exact HB.out | apply below_alloc | apply pw_below_drewN | apply below_drew1) | exact HB.out)))); have n1_ := Aside0.mk (below_step (by repeat (first | (with_reducible first | exact HB.out | apply below_alloc | apply pw_below_drewN | apply below_drew1) | exact HB.out)) hb); clear HB; have HO353 := n0_; have HB := n1_; clear n0_ n1_; (try clear hb); (try clear hb2); (try clear hk); (try clear hi); (try clear ho0)))
  go_loopg [9] k (fun kq v9 w' => ∃ (x7_1 : List Int) (x9_1 : Int), v9 = .int .i64 x9_1 ∧ Aside0 (frame_Spoil.l0 kq (Int.tmod (wrap64 ((Int.tmod a1 (wrap64 (8 * (l0.length : Int)))) + (wrap64 (8 * (l0.length : Int))))) (wrap64 (8 * (l0.length : Int)))) a2 x7_1 (wrap64 (8 * (l0.length : Int))) x9_1 = some r) ∧ Aside0 (kq ≤ k) ∧ Aside0 (Kd.R (Kd.int .u8) 5 w' w.heap.size (fun _ => True) v352 x7_1) ∧ Aside0 (Below w.heap.size w w'))
  case atStart => exact ⟨(t351), (0), (by first | rfl | (simp; done) | (simp [*]; done)), H', ⟨Nat.le_refl _⟩, ⟨by (with_reducible repeat (first | apply Kd.R_alloc | apply Kd.R_drewN | apply Kd.R_drew)); exact HO353.out⟩, ⟨by repeat (first | (with_reducible first | exact HB.out | apply below_alloc | apply pw_below_drewN | apply below_drew1) | exact HB.out)⟩⟩
  case round =>
   clear H'
   try clear c2
   try clear p2
   try clear c5
   try clear c5b0
   try clear c5b1
   try clear p6
   obtain ⟨x7_1, x9_1, rfl, HA, HK1, HO_7, HB⟩ := hrel
   cases gk with
   | zero => exact absurd HA.out (by simp [frame_Spoil.l0])
   | succ k1 =>
    have H := HA.out
    clear HA
    simp only [frame_Spoil.l0] at H
    have HC8 := Aside0.mk H
    clear H
    go_upto_region 7 with (fail)
    go_cut [33] (fun v33 wc => ∃ (kq : Nat) (x33_7 : Bool), v33 = .bool x33_7 ∧ Aside0 (frame_Spoil.j1 kq (Int.tmod (wrap64 ((Int.tmod a1 (wrap64 (8 * (l0.length : Int)))) + (wrap64 (8 * (l0.length : Int))))) (wrap64 (8 * (l0.length : Int)))) a2 x7_1 (wrap64 (8 * (l0.length : Int))) x9_1 x33_7 = some r) ∧ Aside0 (kq ≤ k1) ∧ Aside0 (Kd.R (Kd.int .u8) 5 wc w.heap.size (fun _ => True) v352 x7_1) ∧ Aside0 (Below w.heap.size w wc))
    case first =>
     have H := HC8.out
     clear HC8
     by_cases c9 : x9_1 < 16
     ·rw [if_pos c9] at H
      have c9b0 : decide (x9_1 < 16) = true := decide_eq_true c9
      clear c9
      (first | rw [c9b0] | (simp only [i64_w, i32_w]; rw [c9b0]) | skip)
      have H' := Aside0.mk H
      clear H
      go_wp2
      go_meet
      case rel => exact ⟨_, (decide ((wrap64 ((Int.tmod (wrap64 ((Int.tmod a1 (wrap64 (8 * (l0.length : Int)))) + (wrap64 (8 * (l0.length : Int))))) (wrap64 (8 * (l0.length : Int)))) + x9_1)) < (wrap64 (8 * (l0.length : Int))))), (by first | rfl | (simp; done) | (simp [*]; done)), H', ⟨by have := HK1.out; first | omega | exact Nat.le_refl _⟩, ⟨by (with_reducible repeat (first | apply Kd.R_alloc | apply Kd.R_drewN | apply Kd.R_drew)); exact HO_7.out⟩, ⟨by repeat (first | (with_reducible first | exact HB.out | apply below_alloc | apply pw_below_drewN | apply below_drew1) | exact HB.out)⟩⟩
     ·rw [if_neg c9] at H
      have c9b0 : decide (x9_1 < 16) = false := decide_eq_false c9
      clear c9
      (first | rw [c9b0] | (simp only [i64_w, i32_w]; rw [c9b0]) | skip)
      have H' := Aside0.mk H
      clear H
      go_wp2
      go_meet
      case rel => exact ⟨_, (false), (by first | rfl | (simp; done) | (simp [*]; done)), H', ⟨by have := HK1.out; first | omega | exact Nat.le_refl _⟩, ⟨by (with_reducible repeat (first | apply Kd.R_alloc | apply Kd.R_drewN | apply Kd.R_drew)); exact HO_7.out⟩, ⟨by repeat (first | (with_reducible first | exact HB.out | apply below_alloc | apply pw_below_drewN | apply below_drew1) | exact HB.out)⟩⟩
    case rest =>
     clear HC8
     try clear c2
     try clear p2
     try clear c5
     try clear c5b0
     try clear c5b1
     try clear p6
     try clear c9
     try clear c9b0
     try clear p2
     try clear p6
     obtain ⟨kq, x33_7, rfl, HA, HJ7, HO_7, HB⟩ := hcut
     cases kq with
     | zero => exact absurd HA.out (by simp [frame_Spoil.j1])
     | succ kj7 =>
      have H := HA.out
      clear HA
      simp only [frame_Spoil.j1] at H
      by_cases c10 : x33_7 = true
      ·subst c10
       have H1 : (if x9_1 = 0 then (if 0 ≤ (wrap64 (Int.tdiv (wrap64 ((Int.tmod (wrap64 ((Int.tmod a1 (wrap64 (8 * (l0.length : Int)))) + (wrap64 (8 * (l0.length : Int))))) (wrap64 (8 * (l0.length : Int)))) + x9_1)) 8)) then (if (wrap64 (Int.tdiv (wrap64 ((Int.tmod (wrap64 ((Int.tmod a1 (wrap64 (8 * (l0.length : Int)))) + (wrap64 (8 * (l0.length : Int))))) (wrap64 (8 * (l0.length : Int)))) + x9_1)) 8)) < (x7_1.length : Int) then (if 0 ≤ (IntKind.u64.wrap (Int.tmod (wrap64 ((Int.tmod (wrap64 ((Int.tmod a1 (wrap64 (8 * (l0.length : Int)))) + (wrap64 (8 * (l0.length : Int))))) (wrap64 (8 * (l0.length : Int)))) + x9_1)) 8)) then (frame_Spoil.l0 kj7 (Int.tmod (wrap64 ((Int.tmod a1 (wrap64 (8 * (l0.length : Int)))) + (wrap64 (8 * (l0.length : Int))))) (wrap64 (8 * (l0.length : Int)))) a2 (x7_1.set ((wrap64 (Int.tdiv (wrap64 ((Int.tmod (wrap64 ((Int.tmod a1 (wrap64 (8 * (l0.length : Int)))) + (wrap64 (8 * (l0.length : Int))))) (wrap64 (8 * (l0.length : Int)))) + x9_1)) 8)) : Int).toNat (Go.bits .xor .u8 (rd x7_1 (wrap64 (Int.tdiv (wrap64 ((Int.tmod (wrap64 ((Int.tmod a1 (wrap64 (8 * (l0.length : Int)))) + (wrap64 (8 * (l0.length : Int))))) (wrap64 (8 * (l0.length : Int)))) + x9_1)) 8))) (shl .u8 1 (IntKind.u64.wrap (Int.tmod (wrap64 ((Int.tmod (wrap64 ((Int.tmod a1 (wrap64 (8 * (l0.length : Int)))) + (wrap64 (8 * (l0.length : Int))))) (wrap64 (8 * (l0.length : Int)))) + x9_1)) 8))))) (wrap64 (8 * (l0.length : Int))) (wrap64 (x9_1 + 1))) else (none)) else (none)) else (none)) else (if 0 ≤ (IntKind.u64.wrap (x9_1)) then (if (Go.bits .and .i64 (shr .i64 a2 (IntKind.u64.wrap (x9_1))) 1) = 1 then (if 0 ≤ (wrap64 (Int.tdiv (wrap64 ((Int.tmod (wrap64 ((Int.tmod a1 (wrap64 (8 * (l0.length : Int)))) + (wrap64 (8 * (l0.length : Int))))) (wrap64 (8 * (l0.length : Int)))) + x9_1)) 8)) then (if (wrap64 (Int.tdiv (wrap64 ((Int.tmod (wrap64 ((Int.tmod a1 (wrap64 (8 * (l0.length : Int)))) + (wrap64 (8 * (l0.length : Int))))) (wrap64 (8 * (l0.length : Int)))) + x9_1)) 8)) < (x7_1.length : Int) then (if 0 ≤ (IntKind.u64.wrap (Int.tmod (wrap64 ((Int.tmod (wrap64 ((Int.tmod a1 (wrap64 (8 * (l0.length : Int)))) + (wrap64 (8 * (l0.length : Int))))) (wrap64 (8 * (l0.length : Int)))) + x9_1)) 8)) then (frame_Spoil.l0 kj7 (Int.tmod (wrap64 ((Int.tmod a1 (wrap64 (8 * (l0.length : Int)))) + (wrap64 (8 * (l0.length : Int))))) (wrap64 (8 * (l0.length : Int)))) a2 (x7_1.set ((wrap64 (Int.tdiv (wrap64 ((Int.tmod (wrap64 ((Int.tmod a1 (wrap64 (8 * (l0.length : Int)))) + (wrap64 (8 * (l0.length : Int))))) (wrap64 (8 * (l0.length : Int)))) + x9_1)) 8)) : Int).toNat (Go.bits .xor .u8 (rd x7_1 (wrap64 (Int.tdiv (wrap64 ((Int.tmod (wrap64 ((Int.tmod a1 (wrap64 (8 * (l0.length : Int)))) + (wrap64 (8 * (l0.length : Int))))) (wrap64 (8 * (l0.length : Int)))) + x9_1)) 8))) (shl .u8 1 (IntKind.u64.wrap (Int.tmod (wrap64 ((Int.tmod (wrap64 ((Int.tmod a1 (wrap64 (8 * (l0.length : Int)))) + (wrap64 (8 * (l0.length : Int))))) (wrap64 (8 * (l0.length : Int)))) + x9_1)) 8))))) (wrap64 (8 * (l0.length : Int))) (wrap64 (x9_1 + 1))) else (none)) else (none)) else (none)) else (frame_Spoil.l0 kj7 (Int.tmod (wrap64 ((Int.tmod a1 (wrap64 (8 * (l0.length : Int)))) + (wrap64 (8 * (l0.length : Int))))) (wrap64 (8 * (l0.length : Int)))) a2 x7_1 (wrap64 (8 * (l0.length : Int))) (wrap64 (x9_1 + 1)))) else (none))) = some r := by rw [if_pos rfl] at H; exact H
       clear H
       have H := H1
       clear H1
       by_cases c11 : x9_1 = 0
       ·rw [if_pos c11] at H
        have c11b0 : (x9_1 == 0) = true := beq_iff_eq.mpr c11
        have c11b1 : (x9_1 != 0) = false := bne_eq_false_iff_eq.mpr c11
        clear c11
        obtain ⟨ji12, hji12⟩ : ∃ j_ : Int, (wrap64 (Int.tdiv (wrap64 ((Int.tmod (wrap64 ((Int.tmod a1 (wrap64 (8 * (l0.length : Int)))) + (wrap64 (8 * (l0.length : Int))))) (wrap64 (8 * (l0.length : Int)))) + x9_1)) 8)) = j_ := ⟨_, rfl⟩
        replace H : (if 0 ≤ (ji12) then (if (ji12) < (x7_1.length : Int) then (if 0 ≤ (IntKind.u64.wrap (Int.tmod (wrap64 ((Int.tmod (wrap64 ((Int.tmod a1 (wrap64 (8 * (l0.length : Int)))) + (wrap64 (8 * (l0.length : Int))))) (wrap64 (8 * (l0.length : Int)))) + x9_1)) 8)) then (frame_Spoil.l0 kj7 (Int.tmod (wrap64 ((Int.tmod a1 (wrap64 (8 * (l0.length : Int)))) + (wrap64 (8 * (l0.length : Int))))) (wrap64 (8 * (l0.length : Int)))) a2 (x7_1.set ((ji12) : Int).toNat (Go.bits .xor .u8 (rd x7_1 (ji12)) (shl .u8 1 (IntKind.u64.wrap (Int.tmod (wrap64 ((Int.tmod (wrap64 ((Int.tmod a1 (wrap64 (8 * (l0.length : Int)))) + (wrap64 (8 * (l0.length : Int))))) (wrap64 (8 * (l0.length : Int)))) + x9_1)) 8))))) (wrap64 (8 * (l0.length : Int))) (wrap64 (x9_1 + 1))) else (none)) else (none)) else (none)) = some r := by first | (rw [hji12] at H; exact H) | (simp only [hji12] at H ⊢; exact H)
        have hji12w : (IntKind.i64.wrap (Int.tdiv (wrap64 ((Int.tmod (wrap64 ((Int.tmod a1 (wrap64 (8 * (l0.length : Int)))) + (wrap64 (8 * (l0.length : Int))))) (wrap64 (8 * (l0.length : Int)))) + x9_1)) 8)) = ji12 := (i64_w _).trans hji12
        by_cases c13 : 0 ≤ (ji12)
        ·rw [if_pos c13] at H
         have c13b0 : decide (0 ≤ (ji12)) = true := decide_eq_true c13
         clear c13
         by_cases c14 : (ji12) < (x7_1.length : Int)
         ·rw [if_pos c14] at H
          have c14b0 : decide ((ji12) < (x7_1.length : Int)) = true := decide_eq_true c14
          clear c14
          obtain ⟨ji15, hji15⟩ : ∃ j_ : Int, (IntKind.u64.wrap (Int.tmod (wrap64 ((Int.tmod (wrap64 ((Int.tmod a1 (wrap64 (8 * (l0.length : Int)))) + (wrap64 (8 * (l0.length : Int))))) (wrap64 (8 * (l0.length : Int)))) + x9_1)) 8)) = j_ := ⟨_, rfl⟩
          replace H : (if 0 ≤ (ji15) then (frame_Spoil.l0 kj7 (Int.tmod (wrap64 ((Int.tmod a1 (wrap64 (8 * (l0.length : Int)))) + (wrap64 (8 * (l0.length : Int))))) (wrap64 (8 * (l0.length : Int)))) a2 (x7_1.set ((ji12) : Int).toNat (Go.bits .xor .u8 (rd x7_1 (ji12)) (shl .u8 1 (ji15)))) (wrap64 (8 * (l0.length : Int))) (wrap64 (x9_1 + 1))) else (none)) = some r := by first | (rw [hji15] at H; exact H) | (simp only [hji15] at H ⊢; exact H)
          by_cases c16 : 0 ≤ (ji15)
          ·rw [if_pos c16] at H
           have c16b0 := eq_true c16
           have c16b1 : decide (0 ≤ (ji15)) = true := decide_eq_true c16
           clear c16
           obtain ⟨ji17, hji17⟩ : ∃ j_ : Int, (shl .u8 1 (ji15)) = j_ := ⟨_, rfl⟩
           replace H : (frame_Spoil.l0 kj7 (Int.tmod (wrap64 ((Int.tmod a1 (wrap64 (8 * (l0.length : Int)))) + (wrap64 (8 * (l0.length : Int))))) (wrap64 (8 * (l0.length : Int)))) a2 (x7_1.set ((ji12) : Int).toNat (Go.bits .xor .u8 (rd x7_1 (ji12)) (ji17))) (wrap64 (8 * (l0.length : Int))) (wrap64 (x9_1 + 1))) = some r := by first | (rw [hji17] at H; exact H) | (simp only [hji17] at H ⊢; exact H)
           have hji17_ : (IntKind.u8.wrap (1 * 2 ^ min (ji15).toNat 8)) = ji17 := hji17
           have hji17z : (ji15) ≤ 8 → (IntKind.u8.wrap (1 * 2 ^ (ji15).toNat)) = ji17 := shl_small hji17
           have hji17u : (IntKind.u8.wrap (2 ^ min (ji15).toNat 8)) = ji17 := by have h_ := hji17_; rw [Int.one_mul] at h_; exact h_
           have hji17v : (ji15) ≤ 8 → (IntKind.u8.wrap (2 ^ (ji15).toNat)) = ji17 := fun hle_ => by have h_ := hji17z hle_; rw [Int.one_mul] at h_; exact h_
           obtain ⟨y355, hy355⟩ : ∃ y_ : List Int, y_ = (x7_1.set ((ji12) : Int).toNat (Go.bits .xor .u8 (rd x7_1 (ji12)) (ji17))) := ⟨_, rfl⟩
           replace H : (frame_Spoil.l0 kj7 (Int.tmod (wrap64 ((Int.tmod a1 (wrap64 (8 * (l0.length : Int)))) + (wrap64 (8 * (l0.length : Int))))) (wrap64 (8 * (l0.length : Int)))) a2 y355 (wrap64 (8 * (l0.length : Int))) (wrap64 (x9_1 + 1))) = some r := by first | (rw [hy355]; with_reducible exact H) | (have H2_ := (Option.bind_some _ _).symm.trans H; rw [hy355]; with_reducible exact H2_) | (have H2_ := (Option.bind_some _ _).symm.trans H; with_reducible exact H2_) | with_reducible exact H | (rw [hy355]; exact H) | exact H
           have Ny355 := Aside0.mk hy355
           clear hy355
           have H' := Aside0.mk H
           clear H
           obtain ⟨Ao19, co19, eo19⟩ := Kd.R_slice HO_7.out
           subst eo19
           have p354 : 0 ≤ ((ji12) : Int) := of_decide_eq_true (by first | (with_reducible assumption) | assumption)
           have q354 : (ji12) < (x7_1.length : Int) := of_decide_eq_true (by first | (with_reducible assumption) | assumption)
           obtain ⟨ad354, e354, hx354_0⟩ := Kd.at_int (Kd.R_reads' HO_7.out).2.2 (ji12) p354 q354
           cases e354
           replace p354 := eq_true p354
           replace q354 := eq_true q354
           have p18 : 0 ≤ ((ji12) : Int) := of_decide_eq_true (by first | (with_reducible assumption) | assumption)
           have q18 : ((ji12) : Int) < ((x7_1.length : Int) : Int) := of_decide_eq_true (by first | (with_reducible assumption) | assumption)
           obtain ⟨go18, co18, eo18, gb18, gl18, cl18, HG18⟩ := Kd.R_form HO_7.out (by omega)
           (first | cases eo18 | (injection eo18 with ea_ en_ ec_; (first | subst ea_ | (injection ea_ with ea_; subst ea_)); subst ec_; clear en_))
           have GB18 := Aside0.mk gb18
           have GG18 := Aside0.mk HG18
           clear gb18 gl18 HG18
           (first | simp only [add_plain] at hx354_0 | skip)
           obtain ⟨hx18_0, hf18_0⟩ := Kd.R_celln 0 HO_7.out ((ji12) : Int) p18 q18
           replace p18 := eq_true p18
           replace q18 := eq_true q18
           have HP20 := Kd.R_putg HO_7.out ((ji12) : Int) (Go.bits .xor .u8 (rd x7_1 (ji12)) (ji17))
           go_wp2_with (first | ((with_reducible refine gate_store (t := 5) (p := 60) rfl ?_); refine store_event (t := 5) (p := 60) (v := ?vo_w21) (w1 := (wc.setCell ⟨go18, ((ji12) : Int).toNat, none⟩ (.int .u8 (Go.bits .xor .u8 (rd x7_1 (ji12)) (ji17))))) ?hg ?ho ?hn ?hr ?_; (case ho => rfl); (case hg => rfl); (case hn => rfl); (case hr => first | (go_simp; done) | (go_simp; rfl)); intro w21 hw; have hg : wc.grownBy w21 (some go18) := (by rw [hw]; exact HP20.2); have hp_ : Kd.R (Kd.int .u8) 5 w21 w.heap.size (fun _ => True) (.slice (some ⟨go18, 0, none⟩) x7_1.length co19) y355 := (by rw [hw, Ny355.out]; exact HP20.1); clear HP20; have n0_ := Aside0.mk (hp_); have n1_ := Aside0.mk ((by rw [hw]; exact below_set (HB.out) GB18.out : Below w.heap.size w w21)); clear HO_7; clear HB; have HO_7 := n0_; have HB := n1_; clear n0_ n1_; clear hg hw hp_))
           go_roundg kj7
           case measure => have := HK1.out; have := HJ7.out; omega
           case rel => exact ⟨(y355), (wrap64 (x9_1 + 1)), (by first | rfl | (simp; done) | (simp [*]; done)), H', ⟨by have := HK1.out; have := HJ7.out; omega⟩, ⟨by (with_reducible repeat (first | apply Kd.R_alloc | apply Kd.R_drewN | apply Kd.R_drew)); exact HO_7.out⟩, ⟨by repeat (first | (with_reducible first | exact HB.out | apply below_alloc | apply pw_below_drewN | apply below_drew1) | exact HB.out)⟩⟩
          ·rw [if_neg c16] at H
           exact absurd H (by simp)
         ·rw [if_neg c14] at H
          exact absurd H (by simp)
        ·rw [if_neg c13] at H
         exact absurd H (by simp)
       ·rw [if_neg c11] at H
        have c11b0 : (x9_1 == 0) = false := beq_eq_false_iff_ne.mpr c11
        have c11b1 : (x9_1 != 0) = true := bne_iff_ne.mpr c11
        obtain ⟨ji22, hji22⟩ : ∃ j_ : Int, (IntKind.u64.wrap (x9_1)) = j_ := ⟨_, rfl⟩
        replace H : (if 0 ≤ (ji22) then (if (Go.bits .and .i64 (shr .i64 a2 (ji22)) 1) = 1 then (if 0 ≤ (wrap64 (Int.tdiv (wrap64 ((Int.tmod (wrap64 ((Int.tmod a1 (wrap64 (8 * (l0.length : Int)))) + (wrap64 (8 * (l0.length : Int))))) (wrap64 (8 * (l0.length : Int)))) + x9_1)) 8)) then (if (wrap64 (Int.tdiv (wrap64 ((Int.tmod (wrap64 ((Int.tmod a1 (wrap64 (8 * (l0.length : Int)))) + (wrap64 (8 * (l0.length : Int))))) (wrap64 (8 * (l0.length : Int)))) + x9_1)) 8)) < (x7_1.length : Int) then (if 0 ≤ (IntKind.u64.wrap (Int.tmod (wrap64 ((Int.tmod (wrap64 ((Int.tmod a1 (wrap64 (8 * (l0.length : Int)))) + (wrap64 (8 * (l0.length : Int))))) (wrap64 (8 * (l0.length : Int)))) + x9_1)) 8)) then (frame_Spoil.l0 kj7 (Int.tmod (wrap64 ((Int.tmod a1 (wrap64 (8 * (l0.length : Int)))) + (wrap64 (8 * (l0.length : Int))))) (wrap64 (8 * (l0.length : Int)))) a2 (x7_1.set ((wrap64 (Int.tdiv (wrap64 ((Int.tmod (wrap64 ((Int.tmod a1 (wrap64 (8 * (l0.length : Int)))) + (wrap64 (8 * (l0.length : Int))))) (wrap64 (8 * (l0.length : Int)))) + x9_1)) 8)) : Int).toNat (Go.bits .xor .u8 (rd x7_1 (wrap64 (Int.tdiv (wrap64 ((Int.tmod (wrap64 ((Int.tmod a1 (wrap64 (8 * (l0.length : Int)))) + (wrap64 (8 * (l0.length : Int))))) (wrap64 (8 * (l0.length : Int)))) + x9_1)) 8))) (shl .u8 1 (IntKind.u64.wrap (Int.tmod (wrap64 ((Int.tmod (wrap64 ((Int.tmod a1 (wrap64 (8 * (l0.length : Int)))) + (wrap64 (8 * (l0.length : Int))))) (wrap64 (8 * (l0.length : Int)))) + x9_1)) 8))))) (wrap64 (8 * (l0.length : Int))) (wrap64 (x9_1 + 1))) else (none)) else (none)) else (none)) else (frame_Spoil.l0 kj7 (Int.tmod (wrap64 ((Int.tmod a1 (wrap64 (8 * (l0.length : Int)))) + (wrap64 (8 * (l0.length : Int))))) (wrap64 (8 * (l0.length : Int)))) a2 x7_1 (wrap64 (8 * (l0.length : Int))) (wrap64 (x9_1 + 1)))) else (none)) = some r := by first | (rw [hji22] at H; exact H) | (simp only [hji22] at H ⊢; exact H)
        by_cases c23 : 0 ≤ (ji22)
        ·rw [if_pos c23] at H
         have c23b0 := eq_true c23
         have c23b1 : decide (0 ≤ (ji22)) = true := decide_eq_true c23
         clear c23
         obtain ⟨ji24, hji24⟩ : ∃ j_ : Int, (shr .i64 a2 (ji22)) = j_ := ⟨_, rfl⟩
         replace H : (if (Go.bits .and .i64 (ji24) 1) = 1 then (if 0 ≤ (wrap64 (Int.tdiv (wrap64 ((Int.tmod (wrap64 ((Int.tmod a1 (wrap64 (8 * (l0.length : Int)))) + (wrap64 (8 * (l0.length : Int))))) (wrap64 (8 * (l0.length : Int)))) + x9_1)) 8)) then (if (wrap64 (Int.tdiv (wrap64 ((Int.tmod (wrap64 ((Int.tmod a1 (wrap64 (8 * (l0.length : Int)))) + (wrap64 (8 * (l0.length : Int))))) (wrap64 (8 * (l0.length : Int)))) + x9_1)) 8)) < (x7_1.length : Int) then (if 0 ≤ (IntKind.u64.wrap (Int.tmod (wrap64 ((Int.tmod (wrap64 ((Int.tmod a1 (wrap64 (8 * (l0.length : Int)))) + (wrap64 (8 * (l0.length : Int))))) (wrap64 (8 * (l0.length : Int)))) + x9_1)) 8)) then (frame_Spoil.l0 kj7 (Int.tmod (wrap64 ((Int.tmod a1 (wrap64 (8 * (l0.length : Int)))) + (wrap64 (8 * (l0.length : Int))))) (wrap64 (8 * (l0.length : Int)))) a2 (x7_1.set ((wrap64 (Int.tdiv (wrap64 ((Int.tmod (wrap64 ((Int.tmod a1 (wrap64 (8 * (l0.length : Int)))) + (wrap64 (8 * (l0.length : Int))))) (wrap64 (8 * (l0.length : Int)))) + x9_1)) 8)) : Int).toNat (Go.bits .xor .u8 (rd x7_1 (wrap64 (Int.tdiv (wrap64 ((Int.tmod (wrap64 ((Int.tmod a1 (wrap64 (8 * (l0.length : Int)))) + (wrap64 (8 * (l0.length : Int))))) (wrap64 (8 * (l0.length : Int)))) + x9_1)) 8))) (shl .u8 1 (IntKind.u64.wrap (Int.tmod (wrap64 ((Int.tmod (wrap64 ((Int.tmod a1 (wrap64 (8 * (l0.length : Int)))) + (wrap64 (8 * (l0.length : Int))))) (wrap64 (8 * (l0.length : Int)))) + x9_1)) 8))))) (wrap64 (8 * (l0.length : Int))) (wrap64 (x9_1 + 1))) else (none)) else (none)) else (none)) else (frame_Spoil.l0 kj7 (Int.tmod (wrap64 ((Int.tmod a1 (wrap64 (8 * (l0.length : Int)))) + (wrap64 (8 * (l0.length : Int))))) (wrap64 (8 * (l0.length : Int)))) a2 x7_1 (wrap64 (8 * (l0.length : Int))) (wrap64 (x9_1 + 1)))) = some r := by first | (rw [hji24] at H; exact H) | (simp only [hji24] at H ⊢; exact H)
         have hji24_ : (a2 / 2 ^ min (ji22).toNat 64) = ji24 := hji24
         have hji24z : (ji22) ≤ 64 → (a2 / 2 ^ (ji22).toNat) = ji24 := shr_small hji24
         by_cases c25 : (Go.bits .and .i64 (ji24) 1) = 1
         ·rw [if_pos c25] at H
          have c25b0 : ((Go.bits .and .i64 (ji24) 1) == 1) = true := beq_iff_eq.mpr c25
          have c25b1 : ((Go.bits .and .i64 (ji24) 1) != 1) = false := bne_eq_false_iff_eq.mpr c25
          clear c25
          obtain ⟨ji26, hji26⟩ : ∃ j_ : Int, (wrap64 (Int.tdiv (wrap64 ((Int.tmod (wrap64 ((Int.tmod a1 (wrap64 (8 * (l0.length : Int)))) + (wrap64 (8 * (l0.length : Int))))) (wrap64 (8 * (l0.length : Int)))) + x9_1)) 8)) = j_ := ⟨_, rfl⟩
          replace H : (if 0 ≤ (ji26) then (if (ji26) < (x7_1.length : Int) then (if 0 ≤ (IntKind.u64.wrap (Int.tmod (wrap64 ((Int.tmod (wrap64 ((Int.tmod a1 (wrap64 (8 * (l0.length : Int)))) + (wrap64 (8 * (l0.length : Int))))) (wrap64 (8 * (l0.length : Int)))) + x9_1)) 8)) then (frame_Spoil.l0 kj7 (Int.tmod (wrap64 ((Int.tmod a1 (wrap64 (8 * (l0.length : Int)))) + (wrap64 (8 * (l0.length : Int))))) (wrap64 (8 * (l0.length : Int)))) a2 (x7_1.set ((ji26) : Int).toNat (Go.bits .xor .u8 (rd x7_1 (ji26)) (shl .u8 1 (IntKind.u64.wrap (Int.tmod (wrap64 ((Int.tmod (wrap64 ((Int.tmod a1 (wrap64 (8 * (l0.length : Int)))) + (wrap64 (8 * (l0.length : Int))))) (wrap64 (8 * (l0.length : Int)))) + x9_1)) 8))))) (wrap64 (8 * (l0.length : Int))) (wrap64 (x9_1 + 1))) else (none)) else (none)) else (none)) = some r := by first | (rw [hji26] at H; exact H) | (simp only [hji26] at H ⊢; exact H)
          have hji26w : (IntKind.i64.wrap (Int.tdiv (wrap64 ((Int.tmod (wrap64 ((Int.tmod a1 (wrap64 (8 * (l0.length : Int)))) + (wrap64 (8 * (l0.length : Int))))) (wrap64 (8 * (l0.length : Int)))) + x9_1)) 8)) = ji26 := (i64_w _).trans hji26
          by_cases c27 : 0 ≤ (ji26)
          ·rw [if_pos c27] at H
           have c27b0 : decide (0 ≤ (ji26)) = true := decide_eq_true c27
           clear c27
           by_cases c28 : (ji26) < (x7_1.length : Int)
           ·rw [if_pos c28] at H
            have c28b0 : decide ((ji26) < (x7_1.length : Int)) = true := decide_eq_true c28
            clear c28
            obtain ⟨ji29, hji29⟩ : ∃ j_ : Int, (IntKind.u64.wrap (Int.tmod (wrap64 ((Int.tmod (wrap64 ((Int.tmod a1 (wrap64 (8 * (l0.length : Int)))) + (wrap64 (8 * (l0.length : Int))))) (wrap64 (8 * (l0.length : Int)))) + x9_1)) 8)) = j_ := ⟨_, rfl⟩
            replace H : (if 0 ≤ (ji29) then (frame_Spoil.l0 kj7 (Int.tmod (wrap64 ((Int.tmod a1 (wrap64 (8 * (l0.length : Int)))) + (wrap64 (8 * (l0.length : Int))))) (wrap64 (8 * (l0.length : Int)))) a2 (x7_1.set ((ji26) : Int).toNat (Go.bits .xor .u8 (rd x7_1 (ji26)) (shl .u8 1 (ji29)))) (wrap64 (8 * (l0.length : Int))) (wrap64 (x9_1 + 1))) else (none)) = some r := by first | (rw [hji29] at H; exact H) | (simp only [hji29] at H ⊢; exact H)
            by_cases c30 : 0 ≤ (ji29)
            ·rw [if_pos c30] at H
             have c30b0 := eq_true c30
             have c30b1 : decide (0 ≤ (ji29)) = true := decide_eq_true c30
             clear c30
             obtain ⟨ji31, hji31⟩ : ∃ j_ : Int, (shl .u8 1 (ji29)) = j_ := ⟨_, rfl⟩
             replace H : (frame_Spoil.l0 kj7 (Int.tmod (wrap64 ((Int.tmod a1 (wrap64 (8 * (l0.length : Int)))) + (wrap64 (8 * (l0.length : Int))))) (wrap64 (8 * (l0.length : Int)))) a2 (x7_1.set ((ji26) : Int).toNat (Go.bits .xor .u8 (rd x7_1 (ji26)) (ji31))) (wrap64 (8 * (l0.length : Int))) (wrap64 (x9_1 + 1))) = some r := by first | (rw [hji31] at H; exact H) | (simp only [hji31] at H ⊢; exact H)
             have hji31_ : (IntKind.u8.wrap (1 * 2 ^ min (ji29).toNat 8)) = ji31 := hji31
             have hji31z : (ji29) ≤ 8 → (IntKind.u8.wrap (1 * 2 ^ (ji29).toNat)) = ji31 := shl_small hji31
             have hji31u : (IntKind.u8.wrap (2 ^ min (ji29).toNat 8)) = ji31 := by have h_ := hji31_; rw [Int.one_mul] at h_; exact h_
             have hji31v : (ji29) ≤ 8 → (IntKind.u8.wrap (2 ^ (ji29).toNat)) = ji31 := fun hle_ => by have h_ := hji31z hle_; rw [Int.one_mul] at h_; exact h_
             obtain ⟨y357, hy357⟩ : ∃ y_ : List Int, y_ = (x7_1.set ((ji26) : Int).toNat (Go.bits .xor .u8 (rd x7_1 (ji26)) (ji31))) := ⟨_, rfl⟩
             replace H : (frame_Spoil.l0 kj7 (Int.tmod (wrap64 ((Int.tmod a1 (wrap64 (8 * (l0.length : Int)))) + (wrap64 (8 * (l0.length : Int))))) (wrap64 (8 * (l0.length : Int)))) a2 y357 (wrap64 (8 * (l0.length : Int))) (wrap64 (x9_1 + 1))) = some r := by first | (rw [hy357]; with_reducible exact H) | (have H2_ := (Option.bind_some _ _).symm.trans H; rw [hy357]; with_reducible exact H2_) | (have H2_ := (Option.bind_some _ _).symm.trans H; with_reducible exact H2_) | with_reducible exact H | (rw [hy357]; exact H) | exact H
             have Ny357 := Aside0.mk hy357
             clear hy357
             have H' := Aside0.mk H
             clear H
             obtain ⟨Ao33, co33, eo33⟩ := Kd.R_slice HO_7.out
             subst eo33
             have p356 : 0 ≤ ((ji26) : Int) := of_decide_eq_true (by first | (with_reducible assumption) | assumption)
             have q356 : (ji26) < (x7_1.length : Int) := of_decide_eq_true (by first | (with_reducible assumption) | assumption)
             obtain ⟨ad356, e356, hx356_0⟩ := Kd.at_int (Kd.R_reads' HO_7.out).2.2 (ji26) p356 q356
             cases e356
             replace p356 := eq_true p356
             replace q356 := eq_true q356
             have p32 : 0 ≤ ((ji26) : Int) := of_decide_eq_true (by first | (with_reducible assumption) | assumption)
             have q32 : ((ji26) : Int) < ((x7_1.length : Int) : Int) := of_decide_eq_true (by first | (with_reducible assumption) | assumption)
             obtain ⟨go32, co32, eo32, gb32, gl32, cl32, HG32⟩ := Kd.R_form HO_7.out (by omega)
             (first | cases eo32 | (injection eo32 with ea_ en_ ec_; (first | subst ea_ | (injection ea_ with ea_; subst ea_)); subst ec_; clear en_))
             have GB32 := Aside0.mk gb32
             have GG32 := Aside0.mk HG32
             clear gb32 gl32 HG32
             (first | simp only [add_plain] at hx356_0 | skip)
             obtain ⟨hx32_0, hf32_0⟩ := Kd.R_celln 0 HO_7.out ((ji26) : Int) p32 q32
             replace p32 := eq_true p32
             replace q32 := eq_true q32
             have HP34 := Kd.R_putg HO_7.out ((ji26) : Int) (Go.bits .xor .u8 (rd x7_1 (ji26)) (ji31))
             go_wp2_with (first | ((with_reducible refine gate_store (t := 5) (p := 60) rfl ?_); refine store_event (t := 5) (p := 60) (v := ?vo_w35) (w1 := (wc.setCell ⟨go32, ((ji26) : Int).toNat, none⟩ (.int .u8 (Go.bits .xor .u8 (rd x7_1 (ji26)) (ji31))))) ?hg ?ho ?hn ?hr ?_; (case ho => rfl); (case hg => rfl); (case hn => rfl); (case hr => first | (go_simp; done) | (go_simp; rfl)); intro w35 hw; have hg : wc.grownBy w35 (some go32) := (by rw [hw]; exact HP34.2); have hp_ : Kd.R (Kd.int .u8) 5 w35 w.heap.size (fun _ => True) (.slice (some ⟨go32, 0, none⟩) x7_1.length co33) y357 := (by rw [hw, Ny357.out]; exact HP34.1); clear HP34; have n0_ := Aside0.mk (hp_); have n1_ := Aside0.mk ((by rw [hw]; exact below_set (HB.out) GB32.out : Below w.heap.size w w35)); clear HO_7; clear HB; have HO_7 := n0_; have HB := n1_; clear n0_ n1_; clear hg hw hp_))
             go_roundg kj7
             case measure => have := HK1.out; have := HJ7.out; omega
             case rel => exact ⟨(y357), (wrap64 (x9_1 + 1)), (by first | rfl | (simp; done) | (simp [*]; done)), H', ⟨by have := HK1.out; have := HJ7.out; omega⟩, ⟨by (with_reducible repeat (first | apply Kd.R_alloc | apply Kd.R_drewN | apply Kd.R_drew)); exact HO_7.out⟩, ⟨by repeat (first | (with_reducible first | exact HB.out | apply below_alloc | apply pw_below_drewN | apply below_drew1) | exact HB.out)⟩⟩
            ·rw [if_neg c30] at H
             exact absurd H (by simp)
           ·rw [if_neg c28] at H
            exact absurd H (by simp)
          ·rw [if_neg c27] at H
           exact absurd H (by simp)
         ·rw [if_neg c25] at H
          have c25b0 : ((Go.bits .and .i64 (ji24) 1) == 1) = false := beq_eq_false_iff_ne.mpr c25
          have c25b1 : ((Go.bits .and .i64 (ji24) 1) != 1) = true := bne_iff_ne.mpr c25
          have H' := Aside0.mk H
          clear H
          go_wp2
          go_roundg kj7
          case measure => have := HK1.out; have := HJ7.out; omega
          case rel => exact ⟨(x7_1), (wrap64 (x9_1 + 1)), (by first | rfl | (simp; done) | (simp [*]; done)), H', ⟨by have := HK1.out; have := HJ7.out; omega⟩, ⟨by (with_reducible repeat (first | apply Kd.R_alloc | apply Kd.R_drewN | apply Kd.R_drew)); exact HO_7.out⟩, ⟨by repeat (first | (with_reducible first | exact HB.out | apply below_alloc | apply pw_below_drewN | apply below_drew1) | exact HB.out)⟩⟩
        ·rw [if_neg c23] at H
         exact absurd H (by simp)
      ·replace c10 := Bool.eq_false_iff.mpr c10
       subst c10
       have H1 : (some x7_1) = some r := by rw [if_neg (show ¬ (false = true) by decide)] at H; exact H
       clear H
       have H := H1
       clear H1
       obtain rfl := Option.some.inj H
       go_wp2
       go_ret
       exact ⟨_, by first | rfl | (simp [errW_none, errW_some] <;> rfl) | (simp [*, errW_none, errW_some] <;> rfl), by (with_reducible repeat (first | apply Kd.R_alloc | apply Kd.R_drewN | apply Kd.R_drew)); exact HO_7.out, by repeat (first | (with_reducible first | exact HB.out | apply below_alloc | apply pw_below_drewN | apply below_drew1) | exact HB.out)⟩

/-! ### wherryref18_Spoil: function 22 -/
mutual
def wherryref18_Spoil.l0 : Nat → Int → Int → List Int → Int → Int → Option (List Int)
 | 0, _, _, _, _, _ => none
 | k + 1, x1, x2, x7, x8, x9 => if x9 < 16 then (wherryref18_Spoil.j1 k x1 x2 x7 x8 x9 (decide ((wrap64 (x1 + x9)) < x8))) else (wherryref18_Spoil.j1 k x1 x2 x7 x8 x9 false)
def wherryref18_Spoil.j1 : Nat → Int → Int → List Int → Int → Int → Bool → Option (List Int)
 | 0, _, _, _, _, _, _ => none
 | k + 1, x1, x2, x7, x8, x9, x39 => if x39 = true then (if 0 ≤ (IntKind.u64.wrap (x9)) then (if (Go.bits .and .i64 (shr .i64 x2 (IntKind.u64.wrap (x9))) 1) = 1 then (if 0 ≤ (wrap64 (Int.tdiv (wrap64 (x1 + x9)) 8)) then (if (wrap64 (Int.tdiv (wrap64 (x1 + x9)) 8)) < (x7.length : Int) then (if 0 ≤ (IntKind.u64.wrap (Int.tmod (wrap64 (x1 + x9)) 8)) then (wherryref18_Spoil.l0 k x1 x2 (x7.set ((wrap64 (Int.tdiv (wrap64 (x1 + x9)) 8)) : Int).toNat (Go.bits .xor .u8 (rd x7 (wrap64 (Int.tdiv (wrap64 (x1 + x9)) 8))) (shl .u8 1 (IntKind.u64.wrap (Int.tmod (wrap64 (x1 + x9)) 8))))) x8 (wrap64 (x9 + 1))) else (none)) else (none)) else (none)) else (wherryref18_Spoil.l0 k x1 x2 x7 x8 (wrap64 (x9 + 1)))) else (none)) else (some x7)
end
def wherryref18_Spoil.f (k : Nat) (l0 : List Int) (a1 : Int) (a2 : Int) : Option (List Int) := (wherrykeep_Twin.f l0).bind fun t358 => (if (l0.length : Int) = 0 then (some t358) else (if (wrap64 (8 * (l0.length : Int))) = 0 then (none) else (wherryref18_Spoil.l0 k (Int.tmod (wrap64 ((Int.tmod a1 (wrap64 (8 * (l0.length : Int)))) + (wrap64 (8 * (l0.length : Int))))) (wrap64 (8 * (l0.length : Int)))) (Go.bits .or .i64 (Int.tmod (wrap64 ((Int.tmod a2 65536) + 65536)) 65536) 1) t358 (wrap64 (8 * (l0.length : Int))) 0)))
theorem wherryref18_Spoil.mono_l : ∀ k, (∀ y0 y1 y2 y3 y4, LeO (wherryref18_Spoil.l0 k y0 y1 y2 y3 y4) (wherryref18_Spoil.l0 (k + 1) y0 y1 y2 y3 y4)) ∧ (∀ y0 y1 y2 y3 y4 y5, LeO (wherryref18_Spoil.j1 k y0 y1 y2 y3 y4 y5) (wherryref18_Spoil.j1 (k + 1) y0 y1 y2 y3 y4 y5))
 | 0 => ⟨fun _ _ _ _ _ r h => by simp [wherryref18_Spoil.l0] at h, fun _ _ _ _ _ _ r h => by simp [wherryref18_Spoil.j1] at h⟩
 | k + 1 => by
  obtain ⟨ih0, ih1⟩ := wherryref18_Spoil.mono_l k
  refine ⟨?_, ?_⟩
  ·intro y0 y1 y2 y3 y4
   unfold wherryref18_Spoil.l0
   repeat' first
   | (with_reducible exact ih0 _ _ _ _ _)
   | (with_reducible exact ih1 _ _ _ _ _ _)
   | (with_reducible exact LeO.refl _)
   | (with_reducible exact LeO.none _)
   | (with_reducible refine LeO.ite ?_ ?_)
   | (with_reducible refine LeO.bind ?_ (fun _ => ?_))
   | exact ih0 _ _ _ _ _
   | exact ih1 _ _ _ _ _ _
   | exact LeO.none _
   | refine LeO.ite ?_ ?_
   | refine LeO.bind ?_ (fun _ => ?_)
  ·intro y0 y1 y2 y3 y4 y5
   unfold wherryref18_Spoil.j1
   repeat' first
   | (with_reducible exact ih0 _ _ _ _ _)
   | (with_reducible exact ih1 _ _ _ _ _ _)
   | (with_reducible exact LeO.refl _)
   | (with_reducible exact LeO.none _)
   | (with_reducible refine LeO.ite ?_ ?_)
   | (with_reducible refine LeO.bind ?_ (fun _ => ?_))
   | exact ih0 _ _ _ _ _
   | exact ih1 _ _ _ _ _ _
   | exact LeO.none _
   | refine LeO.ite ?_ ?_
   | refine LeO.bind ?_ (fun _ => ?_)
theorem wherryref18_Spoil.mono : ∀ a0 a1 a2 k, LeO (wherryref18_Spoil.f k a0 a1 a2) (wherryref18_Spoil.f (k + 1) a0 a1 a2) := by
 intro a0 a1 a2 k
 obtain ⟨ih0, ih1⟩ := wherryref18_Spoil.mono_l k
 unfold wherryref18_Spoil.f
 repeat' first
   | (with_reducible exact ih0 _ _ _ _ _)
   | (with_reducible exact ih1 _ _ _ _ _ _)
   | (with_reducible exact LeO.refl _)
   | (with_reducible exact LeO.none _)
   | (with_reducible refine LeO.ite ?_ ?_)
   | (with_reducible refine LeO.bind ?_ (fun _ => ?_))
   | exact ih0 _ _ _ _ _
   | exact ih1 _ _ _ _ _ _
   | exact LeO.none _
   | refine LeO.ite ?_ ?_
   | refine LeO.bind ?_ (fun _ => ?_)
set_option maxHeartbeats 8000000 in
set_option maxRecDepth 100000 in
theorem wherryref18_Spoil.calls (k : Nat) (A0 : Option Addr) (c0 : Nat) (l0 : List Int) (a1 : Int) (a2 : Int) (r : List Int) (w : World) (hr0 : Kd.C (Kd.int .u8) w A0 l0.length l0) (hc0 : l0.length ≤ c0) (h : wherryref18_Spoil.f k l0 a1 a2 = some r) :
  Calls Try.prog 22 #[.slice A0 l0.length c0, .int .i64 a1, .int .i64 a2] w fun e w' => ∃ v0_ : Value, e = .returned (v0_) ∧ Kd.R (Kd.int .u8) 5 w' w.heap.size (fun _ => True) v0_ r ∧ Below w.heap.size w w' := by
 have HR0 := Aside0.mk hr0
 have HC0 := Aside0.mk hc0
 clear hr0 hc0
 have HB := Aside0.mk (Below.refl w.heap.size w)
 have H : ((wherrykeep_Twin.f l0).bind fun t358 => (if (l0.length : Int) = 0 then (some t358) else (if (wrap64 (8 * (l0.length : Int))) = 0 then (none) else (wherryref18_Spoil.l0 k (Int.tmod (wrap64 ((Int.tmod a1 (wrap64 (8 * (l0.length : Int)))) + (wrap64 (8 * (l0.length : Int))))) (wrap64 (8 * (l0.length : Int)))) (Go.bits .or .i64 (Int.tmod (wrap64 ((Int.tmod a2 65536) + 65536)) 65536) 1) t358 (wrap64 (8 * (l0.length : Int))) 0)))) = some r := h
 clear h
 replace H := Option.bind_eq_some_iff.mp H
 obtain ⟨t358, A40, H⟩ := H
 replace H : (if (l0.length : Int) = 0 then (some t358) else (if (wrap64 (8 * (l0.length : Int))) = 0 then (none) else (wherryref18_Spoil.l0 k (Int.tmod (wrap64 ((Int.tmod a1 (wrap64 (8 * (l0.length : Int)))) + (wrap64 (8 * (l0.length : Int))))) (wrap64 (8 * (l0.length : Int)))) (Go.bits .or .i64 (Int.tmod (wrap64 ((Int.tmod a2 65536) + 65536)) 65536) 1) t358 (wrap64 (8 * (l0.length : Int))) 0))) = some r := H
 have A4 := Aside0.mk A40
 clear A40
 by_cases c5 : (l0.length : Int) = 0
 ·rw [if_pos c5] at H
  have c5b0 : ((l0.length : Int) == 0) = true := beq_iff_eq.mpr c5
  have c5b1 : ((l0.length : Int) != 0) = false := bne_eq_false_iff_eq.mpr c5
  clear c5
  obtain rfl := Option.some.inj H
  go_enter Try.func22, Try.ntmps22
  go_wp2_with (first | ((with_reducible refine gate_callee (f := 15) rfl ?_); refine goesL_ (some 11) rfl rfl Try.func15 (by kernel_rfl) rfl #[.slice A0 l0.length c0] rfl (by (try simp only [List.map_toArray, List.map_cons, List.map_nil]); first | done | rfl | (simp only [List.length_drop, List.length_take]; rfl) | (go_simp; done) | (go_simp; rfl)) ?_; (with_reducible refine (wherrykeep_Twin.calls _ _ l0 t358 _ ?side1 ?side2 A4.out).mono ?_); (case side1 => repeat (first | exact HR0.out | (with_reducible refine Kd.C_alloc ?_ _) | (with_reducible refine Kd.C_drewN ?_ _) | (with_reducible refine Kd.C_drew ?_))); (case side2 => exact HC0.out); rintro e w6 ⟨v359, rfl, ho0, hb⟩; refine ⟨_, rfl, ?_⟩; have n0_ := Aside0.mk (Kd.R_lower ho0 (below_size (by repeat (first | (with_reducible first | exact HB.out | apply below_alloc | apply pw_below_drewN | apply below_drew1) | exact HB.out)))); have n1_ := Aside0.mk (below_step (by repeat (first | (with_reducible first | exact HB.out | apply below_alloc | apply pw_below_drewN | apply below_drew1) | exact HB.out)) hb); clear HB; have HO360 := n0_; have HB := n1_; clear n0_ n1_; (try clear hb); (try clear hb2); (try clear hk); (try clear hi); (try clear ho0)))
  go_ret
  exact ⟨_, by first | rfl | (simp [errW_none, errW_some] <;> rfl) | (simp [*, errW_none, errW_some] <;> rfl), by (with_reducible repeat (first | apply Kd.R_alloc | apply Kd.R_drewN | apply Kd.R_drew)); exact HO360.out, by repeat (first | (with_reducible first | exact HB.out | apply below_alloc | apply pw_below_drewN | apply below_drew1) | exact HB.out)⟩
 ·rw [if_neg c5] at H
  have c5b0 : ((l0.length : Int) == 0) = false := beq_eq_false_iff_ne.mpr c5
  have c5b1 : ((l0.length : Int) != 0) = true := bne_iff_ne.mpr c5
  have c5b2 : ¬ (l0 = []) := fun h_ => c5 (by rw [h_]; rfl)
  by_cases c7 : (wrap64 (8 * (l0.length : Int))) = 0
  ·rw [if_pos c7] at H
   exact absurd H (by simp)
  ·rw [if_neg c7] at H
   have c7b0 : ((wrap64 (8 * (l0.length : Int))) == 0) = false := beq_eq_false_iff_ne.mpr c7
   have c7b1 : ((wrap64 (8 * (l0.length : Int))) != 0) = true := bne_iff_ne.mpr c7
   have H' := Aside0.mk H
   clear H
   go_enter Try.func22, Try.ntmps22
   go_wp2_with (first | ((with_reducible refine gate_callee (f := 15) rfl ?_); refine goesL_ (some 11) rfl rfl Try.func15 (by kernel_rfl) rfl #[.slice A0 l0.length c0] rfl (by (try simp only [List.map_toArray, List.map_cons, List.map_nil]); first | done | rfl | (simp only [List.length_drop, List.length_take]; rfl) | (go_simp; done) | (go_simp; rfl)) ?_; (with_reducible refine (wherrykeep_Twin.calls _ _ l0 t358 _ ?side1 ?side2 A4.out).mono ?_); (case side1 => repeat (first | exact HR0.out | (with_reducible refine Kd.C_alloc ?_ _) | (with_reducible refine Kd.C_drewN ?_ _) | (with_reducible refine Kd.C_drew ?_))); (case side2 => exact HC0.out); rintro e w8 ⟨v359, rfl, ho0, hb⟩; refine ⟨_, rfl, ?_⟩; have n0_ := Aside0.mk (Kd.R_lower ho0 (below_size (by repeat (first | (with_reducible first | exact HB.out | apply below_alloc | apply pw_below_drewN | apply below_drew1) | exact HB.out)))); have n1_ := Aside0.mk (below_step (by repeat (first | (with_reducible first | exact HB.out | apply below_alloc | apply pw_below_drewN | apply below_drew1) | exact HB.out)) hb); clear HB; have HO360 := n0_; have HB := n1_; clear n0_ n1_; (try clear hb); (try clear hb2); (try clear hk); (try clear hi); (try clear ho0)))
   go_loopg [9] k (fun kq v9 w' => ∃ (x7_1 : List Int) (x9_1 : Int), v9 = .int .i64 x9_1 ∧ Aside0 (wherryref18_Spoil.l0 kq (Int.tmod (wrap64 ((Int.tmod a1 (wrap64 (8 * (l0.length : Int)))) + (wrap64 (8 * (l0.length : Int))))) (wrap64 (8 * (l0.length : Int)))) (Go.bits .or .i64 (Int.tmod (wrap64 ((Int.tmod a2 65536) + 65536)) 65536) 1) x7_1 (wrap64 (8 * (l0.length : Int))) x9_1 = some r) ∧ Aside0 (kq ≤ k) ∧ Aside0 (Kd.R (Kd.int .u8) 5 w' w.heap.size (fun _ => True) v359 x7_1) ∧ Aside0 (Below w.heap.size w w'))
   case atStart => exact ⟨(t358), (0), (by first | rfl | (simp; done) | (simp [*]; done)), H', ⟨Nat.le_refl _⟩, ⟨by (with_reducible repeat (first | apply Kd.R_alloc | apply Kd.R_drewN | apply Kd.R_drew)); exact HO360.out⟩, ⟨by repeat (first | (with_reducible first | exact HB.out | apply below_alloc | apply pw_below_drewN | apply below_drew1) | exact HB.out)⟩⟩
   case round =>
    clear H'
    try clear c1
    try clear c2
    try clear p2
    try clear c5
    try clear c5b0
    try clear c5b1
    try clear c5b2
    try clear p6
    try clear c7
    try clear c7b0
    try clear c7b1
    obtain ⟨x7_1, x9_1, rfl, HA, HK1, HO_7, HB⟩ := hrel
    cases gk with
    | zero => exact absurd HA.out (by simp [wherryref18_Spoil.l0])
    | succ k1 =>
     have H := HA.out
     clear HA
     simp only [wherryref18_Spoil.l0] at H
     have HC9 := Aside0.mk H
     clear H
     go_upto_region 8 with (fail)
     go_cut [39] (fun v39 wc => ∃ (kq : Nat) (x39_8 : Bool), v39 = .bool x39_8 ∧ Aside0 (wherryref18_Spoil.j1 kq (Int.tmod (wrap64 ((Int.tmod a1 (wrap64 (8 * (l0.length : Int)))) + (wrap64 (8 * (l0.length : Int))))) (wrap64 (8 * (l0.length : Int)))) (Go.bits .or .i64 (Int.tmod (wrap64 ((Int.tmod a2 65536) + 65536)) 65536) 1) x7_1 (wrap64 (8 * (l0.length : Int))) x9_1 x39_8 = some r) ∧ Aside0 (kq ≤ k1) ∧ Aside0 (Kd.R (Kd.int .u8) 5 wc w.heap.size (fun _ => True) v359 x7_1) ∧ Aside0 (Below w.heap.size w wc))
     case first =>
      have H := HC9.out
      clear HC9
      by_cases c10 : x9_1 < 16
      ·rw [if_pos c10] at H
       have c10b0 : decide (x9_1 < 16) = true := decide_eq_true c10
       clear c10
       (first | rw [c10b0] | (simp only [i64_w, i32_w]; rw [c10b0]) | skip)
       have H' := Aside0.mk H
       clear H
       go_wp2
       go_meet
       case rel => exact ⟨_, (decide ((wrap64 ((Int.tmod (wrap64 ((Int.tmod a1 (wrap64 (8 * (l0.length : Int)))) + (wrap64 (8 * (l0.length : Int))))) (wrap64 (8 * (l0.length : Int)))) + x9_1)) < (wrap64 (8 * (l0.length : Int))))), (by first | rfl | (simp; done) | (simp [*]; done)), H', ⟨by have := HK1.out; first | omega | exact Nat.le_refl _⟩, ⟨by (with_reducible repeat (first | apply Kd.R_alloc | apply Kd.R_drewN | apply Kd.R_drew)); exact HO_7.out⟩, ⟨by repeat (first | (with_reducible first | exact HB.out | apply below_alloc | apply pw_below_drewN | apply below_drew1) | exact HB.out)⟩⟩
      ·rw [if_neg c10] at H
       have c10b0 : decide (x9_1 < 16) = false := decide_eq_false c10
       clear c10
       (first | rw [c10b0] | (simp only [i64_w, i32_w]; rw [c10b0]) | skip)
       have H' := Aside0.mk H
       clear H
       go_wp2
       go_meet
       case rel => exact ⟨_, (false), (by first | rfl | (simp; done) | (simp [*]; done)), H', ⟨by have := HK1.out; first | omega | exact Nat.le_refl _⟩, ⟨by (with_reducible repeat (first | apply Kd.R_alloc | apply Kd.R_drewN | apply Kd.R_drew)); exact HO_7.out⟩, ⟨by repeat (first | (with_reducible first | exact HB.out | apply below_alloc | apply pw_below_drewN | apply below_drew1) | exact HB.out)⟩⟩
     case rest =>
      clear HC9
      try clear c1
      try clear c2
      try clear p2
      try clear c5
      try clear c5b0
      try clear c5b1
      try clear c5b2
      try clear p6
      try clear c7
      try clear c7b0
      try clear c7b1
      try clear c10
      try clear c10b0
      try clear p2
      try clear p6
      obtain ⟨kq, x39_8, rfl, HA, HJ8, HO_7, HB⟩ := hcut
      cases kq with
      | zero => exact absurd HA.out (by simp [wherryref18_Spoil.j1])
      | succ kj8 =>
       have H := HA.out
       clear HA
       simp only [wherryref18_Spoil.j1] at H
       by_cases c11 : x39_8 = true
       ·subst c11
        have H1 : (if 0 ≤ (IntKind.u64.wrap (x9_1)) then (if (Go.bits .and .i64 (shr .i64 (Go.bits .or .i64 (Int.tmod (wrap64 ((Int.tmod a2 65536) + 65536)) 65536) 1) (IntKind.u64.wrap (x9_1))) 1) = 1 then (if 0 ≤ (wrap64 (Int.tdiv (wrap64 ((Int.tmod (wrap64 ((Int.tmod a1 (wrap64 (8 * (l0.length : Int)))) + (wrap64 (8 * (l0.length : Int))))) (wrap64 (8 * (l0.length : Int)))) + x9_1)) 8)) then (if (wrap64 (Int.tdiv (wrap64 ((Int.tmod (wrap64 ((Int.tmod a1 (wrap64 (8 * (l0.length : Int)))) + (wrap64 (8 * (l0.length : Int))))) (wrap64 (8 * (l0.length : Int)))) + x9_1)) 8)) < (x7_1.length : Int) then (if 0 ≤ (IntKind.u64.wrap (Int.tmod (wrap64 ((Int.tmod (wrap64 ((Int.tmod a1 (wrap64 (8 * (l0.length : Int)))) + (wrap64 (8 * (l0.length : Int))))) (wrap64 (8 * (l0.length : Int)))) + x9_1)) 8)) then (wherryref18_Spoil.l0 kj8 (Int.tmod (wrap64 ((Int.tmod a1 (wrap64 (8 * (l0.length : Int)))) + (wrap64 (8 * (l0.length : Int))))) (wrap64 (8 * (l0.length : Int)))) (Go.bits .or .i64 (Int.tmod (wrap64 ((Int.tmod a2 65536) + 65536)) 65536) 1) (x7_1.set ((wrap64 (Int.tdiv (wrap64 ((Int.tmod (wrap64 ((Int.tmod a1 (wrap64 (8 * (l0.length : Int)))) + (wrap64 (8 * (l0.length : Int))))) (wrap64 (8 * (l0.length : Int)))) + x9_1)) 8)) : Int).toNat (Go.bits .xor .u8 (rd x7_1 (wrap64 (Int.tdiv (wrap64 ((Int.tmod (wrap64 ((Int.tmod a1 (wrap64 (8 * (l0.length : Int)))) + (wrap64 (8 * (l0.length : Int))))) (wrap64 (8 * (l0.length : Int)))) + x9_1)) 8))) (shl .u8 1 (IntKind.u64.wrap (Int.tmod (wrap64 ((Int.tmod (wrap64 ((Int.tmod a1 (wrap64 (8 * (l0.length : Int)))) + (wrap64 (8 * (l0.length : Int))))) (wrap64 (8 * (l0.length : Int)))) + x9_1)) 8))))) (wrap64 (8 * (l0.length : Int))) (wrap64 (x9_1 + 1))) else (none)) else (none)) else (none)) else (wherryref18_Spoil.l0 kj8 (Int.tmod (wrap64 ((Int.tmod a1 (wrap64 (8 * (l0.length : Int)))) + (wrap64 (8 * (l0.length : Int))))) (wrap64 (8 * (l0.length : Int)))) (Go.bits .or .i64 (Int.tmod (wrap64 ((Int.tmod a2 65536) + 65536)) 65536) 1) x7_1 (wrap64 (8 * (l0.length : Int))) (wrap64 (x9_1 + 1)))) else (none)) = some r := by rw [if_pos rfl] at H; exact H
        clear H
        have H := H1
        clear H1
        obtain ⟨ji12, hji12⟩ : ∃ j_ : Int, (IntKind.u64.wrap (x9_1)) = j_ := ⟨_, rfl⟩
        replace H : (if 0 ≤ (ji12) then (if (Go.bits .and .i64 (shr .i64 (Go.bits .or .i64 (Int.tmod (wrap64 ((Int.tmod a2 65536) + 65536)) 65536) 1) (ji12)) 1) = 1 then (if 0 ≤ (wrap64 (Int.tdiv (wrap64 ((Int.tmod (wrap64 ((Int.tmod a1 (wrap64 (8 * (l0.length : Int)))) + (wrap64 (8 * (l0.length : Int))))) (wrap64 (8 * (l0.length : Int)))) + x9_1)) 8)) then (if (wrap64 (Int.tdiv (wrap64 ((Int.tmod (wrap64 ((Int.tmod a1 (wrap64 (8 * (l0.length : Int)))) + (wrap64 (8 * (l0.length : Int))))) (wrap64 (8 * (l0.length : Int)))) + x9_1)) 8)) < (x7_1.length : Int) then (if 0 ≤ (IntKind.u64.wrap (Int.tmod (wrap64 ((Int.tmod (wrap64 ((Int.tmod a1 (wrap64 (8 * (l0.length : Int)))) + (wrap64 (8 * (l0.length : Int))))) (wrap64 (8 * (l0.length : Int)))) + x9_1)) 8)) then (wherryref18_Spoil.l0 kj8 (Int.tmod (wrap64 ((Int.tmod a1 (wrap64 (8 * (l0.length : Int)))) + (wrap64 (8 * (l0.length : Int))))) (wrap64 (8 * (l0.length : Int)))) (Go.bits .or .i64 (Int.tmod (wrap64 ((Int.tmod a2 65536) + 65536)) 65536) 1) (x7_1.set ((wrap64 (Int.tdiv (wrap64 ((Int.tmod (wrap64 ((Int.tmod a1 (wrap64 (8 * (l0.length : Int)))) + (wrap64 (8 * (l0.length : Int))))) (wrap64 (8 * (l0.length : Int)))) + x9_1)) 8)) : Int).toNat (Go.bits .xor .u8 (rd x7_1 (wrap64 (Int.tdiv (wrap64 ((Int.tmod (wrap64 ((Int.tmod a1 (wrap64 (8 * (l0.length : Int)))) + (wrap64 (8 * (l0.length : Int))))) (wrap64 (8 * (l0.length : Int)))) + x9_1)) 8))) (shl .u8 1 (IntKind.u64.wrap (Int.tmod (wrap64 ((Int.tmod (wrap64 ((Int.tmod a1 (wrap64 (8 * (l0.length : Int)))) + (wrap64 (8 * (l0.length : Int))))) (wrap64 (8 * (l0.length : Int)))) + x9_1)) 8))))) (wrap64 (8 * (l0.length : Int))) (wrap64 (x9_1 + 1))) else (none)) else (none)) else (none)) else (wherryref18_Spoil.l0 kj8 (Int.tmod (wrap64 ((Int.tmod a1 (wrap64 (8 * (l0.length : Int)))) + (wrap64 (8 * (l0.length : Int))))) (wrap64 (8 * (l0.length : Int)))) (Go.bits .or .i64 (Int.tmod (wrap64 ((Int.tmod a2 65536) + 65536)) 65536) 1) x7_1 (wrap64 (8 * (l0.length : Int))) (wrap64 (x9_1 + 1)))) else (none)) = some r := by first | (rw [hji12] at H; exact H) | (simp only [hji12] at H ⊢; exact H)
        by_cases c13 : 0 ≤ (ji12)
        ·rw [if_pos c13] at H
         have c13b0 := eq_true c13
         have c13b1 : decide (0 ≤ (ji12)) = true := decide_eq_true c13
         clear c13
         obtain ⟨ji14, hji14⟩ : ∃ j_ : Int, (shr .i64 (Go.bits .or .i64 (Int.tmod (wrap64 ((Int.tmod a2 65536) + 65536)) 65536) 1) (ji12)) = j_ := ⟨_, rfl⟩
         replace H : (if (Go.bits .and .i64 (ji14) 1) = 1 then (if 0 ≤ (wrap64 (Int.tdiv (wrap64 ((Int.tmod (wrap64 ((Int.tmod a1 (wrap64 (8 * (l0.length : Int)))) + (wrap64 (8 * (l0.length : Int))))) (wrap64 (8 * (l0.length : Int)))) + x9_1)) 8)) then (if (wrap64 (Int.tdiv (wrap64 ((Int.tmod (wrap64 ((Int.tmod a1 (wrap64 (8 * (l0.length : Int)))) + (wrap64 (8 * (l0.length : Int))))) (wrap64 (8 * (l0.length : Int)))) + x9_1)) 8)) < (x7_1.length : Int) then (if 0 ≤ (IntKind.u64.wrap (Int.tmod (wrap64 ((Int.tmod (wrap64 ((Int.tmod a1 (wrap64 (8 * (l0.length : Int)))) + (wrap64 (8 * (l0.length : Int))))) (wrap64 (8 * (l0.length : Int)))) + x9_1)) 8)) then (wherryref18_Spoil.l0 kj8 (Int.tmod (wrap64 ((Int.tmod a1 (wrap64 (8 * (l0.length : Int)))) + (wrap64 (8 * (l0.length : Int))))) (wrap64 (8 * (l0.length : Int)))) (Go.bits .or .i64 (Int.tmod (wrap64 ((Int.tmod a2 65536) + 65536)) 65536) 1) (x7_1.set ((wrap64 (Int.tdiv (wrap64 ((Int.tmod (wrap64 ((Int.tmod a1 (wrap64 (8 * (l0.length : Int)))) + (wrap64 (8 * (l0.length : Int))))) (wrap64 (8 * (l0.length : Int)))) + x9_1)) 8)) : Int).toNat (Go.bits .xor .u8 (rd x7_1 (wrap64 (Int.tdiv (wrap64 ((Int.tmod (wrap64 ((Int.tmod a1 (wrap64 (8 * (l0.length : Int)))) + (wrap64 (8 * (l0.length : Int))))) (wrap64 (8 * (l0.length : Int)))) + x9_1)) 8))) (shl .u8 1 (IntKind.u64.wrap (Int.tmod (wrap64 ((Int.tmod (wrap64 ((Int.tmod a1 (wrap64 (8 * (l0.length : Int)))) + (wrap64 (8 * (l0.length : Int))))) (wrap64 (8 * (l0.length : Int)))) + x9_1)) 8))))) (wrap64 (8 * (l0.length : Int))) (wrap64 (x9_1 + 1))) else (none)) else (none)) else (none)) else (wherryref18_Spoil.l0 kj8 (Int.tmod (wrap64 ((Int.tmod a1 (wrap64 (8 * (l0.length : Int)))) + (wrap64 (8 * (l0.length : Int))))) (wrap64 (8 * (l0.length : Int)))) (Go.bits .or .i64 (Int.tmod (wrap64 ((Int.tmod a2 65536) + 65536)) 65536) 1) x7_1 (wrap64 (8 * (l0.length : Int))) (wrap64 (x9_1 + 1)))) = some r := by first | (rw [hji14] at H; exact H) | (simp only [hji14] at H ⊢; exact H)
         have hji14_ : ((Go.bits .or .i64 (Int.tmod (wrap64 ((Int.tmod a2 65536) + 65536)) 65536) 1) / 2 ^ min (ji12).toNat 64) = ji14 := hji14
         have hji14z : (ji12) ≤ 64 → ((Go.bits .or .i64 (Int.tmod (wrap64 ((Int.tmod a2 65536) + 65536)) 65536) 1) / 2 ^ (ji12).toNat) = ji14 := shr_small hji14
         by_cases c15 : (Go.bits .and .i64 (ji14) 1) = 1
         ·rw [if_pos c15] at H
          have c15b0 : ((Go.bits .and .i64 (ji14) 1) == 1) = true := beq_iff_eq.mpr c15
          have c15b1 : ((Go.bits .and .i64 (ji14) 1) != 1) = false := bne_eq_false_iff_eq.mpr c15
          clear c15
          obtain ⟨ji16, hji16⟩ : ∃ j_ : Int, (wrap64 (Int.tdiv (wrap64 ((Int.tmod (wrap64 ((Int.tmod a1 (wrap64 (8 * (l0.length : Int)))) + (wrap64 (8 * (l0.length : Int))))) (wrap64 (8 * (l0.length : Int)))) + x9_1)) 8)) = j_ := ⟨_, rfl⟩
          replace H : (if 0 ≤ (ji16) then (if (ji16) < (x7_1.length : Int) then (if 0 ≤ (IntKind.u64.wrap (Int.tmod (wrap64 ((Int.tmod (wrap64 ((Int.tmod a1 (wrap64 (8 * (l0.length : Int)))) + (wrap64 (8 * (l0.length : Int))))) (wrap64 (8 * (l0.length : Int)))) + x9_1)) 8)) then (wherryref18_Spoil.l0 kj8 (Int.tmod (wrap64 ((Int.tmod a1 (wrap64 (8 * (l0.length : Int)))) + (wrap64 (8 * (l0.length : Int))))) (wrap64 (8 * (l0.length : Int)))) (Go.bits .or .i64 (Int.tmod (wrap64 ((Int.tmod a2 65536) + 65536)) 65536) 1) (x7_1.set ((ji16) : Int).toNat (Go.bits .xor .u8 (rd x7_1 (ji16)) (shl .u8 1 (IntKind.u64.wrap (Int.tmod (wrap64 ((Int.tmod (wrap64 ((Int.tmod a1 (wrap64 (8 * (l0.length : Int)))) + (wrap64 (8 * (l0.length : Int))))) (wrap64 (8 * (l0.length : Int)))) + x9_1)) 8))))) (wrap64 (8 * (l0.length : Int))) (wrap64 (x9_1 + 1))) else (none)) else (none)) else (none)) = some r := by first | (rw [hji16] at H; exact H) | (simp only [hji16] at H ⊢; exact H)
          have hji16w : (IntKind.i64.wrap (Int.tdiv (wrap64 ((Int.tmod (wrap64 ((Int.tmod a1 (wrap64 (8 * (l0.length : Int)))) + (wrap64 (8 * (l0.length : Int))))) (wrap64 (8 * (l0.length : Int)))) + x9_1)) 8)) = ji16 := (i64_w _).trans hji16
          by_cases c17 : 0 ≤ (ji16)
          ·rw [if_pos c17] at H
           have c17b0 : decide (0 ≤ (ji16)) = true := decide_eq_true c17
           clear c17
           by_cases c18 : (ji16) < (x7_1.length : Int)
           ·rw [if_pos c18] at H
            have c18b0 : decide ((ji16) < (x7_1.length : Int)) = true := decide_eq_true c18
            clear c18
            obtain ⟨ji19, hji19⟩ : ∃ j_ : Int, (IntKind.u64.wrap (Int.tmod (wrap64 ((Int.tmod (wrap64 ((Int.tmod a1 (wrap64 (8 * (l0.length : Int)))) + (wrap64 (8 * (l0.length : Int))))) (wrap64 (8 * (l0.length : Int)))) + x9_1)) 8)) = j_ := ⟨_, rfl⟩
            replace H : (if 0 ≤ (ji19) then (wherryref18_Spoil.l0 kj8 (Int.tmod (wrap64 ((Int.tmod a1 (wrap64 (8 * (l0.length : Int)))) + (wrap64 (8 * (l0.length : Int))))) (wrap64 (8 * (l0.length : Int)))) (Go.bits .or .i64 (Int.tmod (wrap64 ((Int.tmod a2 65536) + 65536)) 65536) 1) (x7_1.set ((ji16) : Int).toNat (Go.bits .xor .u8 (rd x7_1 (ji16)) (shl .u8 1 (ji19)))) (wrap64 (8 * (l0.length : Int))) (wrap64 (x9_1 + 1))) else (none)) = some r := by first | (rw [hji19] at H; exact H) | (simp only [hji19] at H ⊢; exact H)
            by_cases c20 : 0 ≤ (ji19)
            ·rw [if_pos c20] at H
             have c20b0 := eq_true c20
             have c20b1 : decide (0 ≤ (ji19)) = true := decide_eq_true c20
             clear c20
             obtain ⟨ji21, hji21⟩ : ∃ j_ : Int, (shl .u8 1 (ji19)) = j_ := ⟨_, rfl⟩
             replace H : (wherryref18_Spoil.l0 kj8 (Int.tmod (wrap64 ((Int.tmod a1 (wrap64 (8 * (l0.length : Int)))) + (wrap64 (8 * (l0.length : Int))))) (wrap64 (8 * (l0.length : Int)))) (Go.bits .or .i64 (Int.tmod (wrap64 ((Int.tmod a2 65536) + 65536)) 65536) 1) (x7_1.set ((ji16) : Int).toNat (Go.bits .xor .u8 (rd x7_1 (ji16)) (ji21))) (wrap64 (8 * (l0.length : Int))) (wrap64 (x9_1 + 1))) = some r := by first | (rw [hji21] at H; exact H) | (simp only [hji21] at H ⊢; exact H)
             have hji21_ : (IntKind.u8.wrap (1 * 2 ^ min (ji19).toNat 8)) = ji21 := hji21
             have hji21z : (ji19) ≤ 8 → (IntKind.u8.wrap (1 * 2 ^ (ji19).toNat)) = ji21 := shl_small hji21
             have hji21u : (IntKind.u8.wrap (2 ^ min (ji19).toNat 8)) = ji21 := by have h_ := hji21_; rw [Int.one_mul] at h_; exact h_
             have hji21v : (ji19) ≤ 8 → (IntKind.u8.wrap (2 ^ (ji19).toNat)) = ji21 := fun hle_ => by have h_ := hji21z hle_; rw [Int.one_mul] at h_; exact h_
             obtain ⟨y362, hy362⟩ : ∃ y_ : List Int, y_ = (x7_1.set ((ji16) : Int).toNat (Go.bits .xor .u8 (rd x7_1 (ji16)) (ji21))) := ⟨_, rfl⟩
             replace H : (wherryref18_Spoil.l0 kj8 (Int.tmod (wrap64 ((Int.tmod a1 (wrap64 (8 * (l0.length : Int)))) + (wrap64 (8 * (l0.length : Int))))) (wrap64 (8 * (l0.length : Int)))) (Go.bits .or .i64 (Int.tmod (wrap64 ((Int.tmod a2 65536) + 65536)) 65536) 1) y362 (wrap64 (8 * (l0.length : Int))) (wrap64 (x9_1 + 1))) = some r := by first | (rw [hy362]; with_reducible exact H) | (have H2_ := (Option.bind_some _ _).symm.trans H; rw [hy362]; with_reducible exact H2_) | (have H2_ := (Option.bind_some _ _).symm.trans H; with_reducible exact H2_) | with_reducible exact H | (rw [hy362]; exact H) | exact H
             have Ny362 := Aside0.mk hy362
             clear hy362
             have H' := Aside0.mk H
             clear H
             obtain ⟨Ao23, co23, eo23⟩ := Kd.R_slice HO_7.out
             subst eo23
             have p361 : 0 ≤ ((ji16) : Int) := of_decide_eq_true (by first | (with_reducible assumption) | assumption)
             have q361 : (ji16) < (x7_1.length : Int) := of_decide_eq_true (by first | (with_reducible assumption) | assumption)
             obtain ⟨ad361, e361, hx361_0⟩ := Kd.at_int (Kd.R_reads' HO_7.out).2.2 (ji16) p361 q361
             cases e361
             replace p361 := eq_true p361
             replace q361 := eq_true q361
             have p22 : 0 ≤ ((ji16) : Int) := of_decide_eq_true (by first | (with_reducible assumption) | assumption)
             have q22 : ((ji16) : Int) < ((x7_1.length : Int) : Int) := of_decide_eq_true (by first | (with_reducible assumption) | assumption)
             obtain ⟨go22, co22, eo22, gb22, gl22, cl22, HG22⟩ := Kd.R_form HO_7.out (by omega)
             (first | cases eo22 | (injection eo22 with ea_ en_ ec_; (first | subst ea_ | (injection ea_ with ea_; subst ea_)); subst ec_; clear en_))
             have GB22 := Aside0.mk gb22
             have GG22 := Aside0.mk HG22
             clear gb22 gl22 HG22
             (first | simp only [add_plain] at hx361_0 | skip)
             obtain ⟨hx22_0, hf22_0⟩ := Kd.R_celln 0 HO_7.out ((ji16) : Int) p22 q22
             replace p22 := eq_true p22
             replace q22 := eq_true q22
             have HP24 := Kd.R_putg HO_7.out ((ji16) : Int) (Go.bits .xor .u8 (rd x7_1 (ji16)) (ji21))
             go_wp2_with (first | ((with_reducible refine gate_store (t := 5) (p := 67) rfl ?_); refine store_event (t := 5) (p := 67) (v := ?vo_w25) (w1 := (wc.setCell ⟨go22, ((ji16) : Int).toNat, none⟩ (.int .u8 (Go.bits .xor .u8 (rd x7_1 (ji16)) (ji21))))) ?hg ?ho ?hn ?hr ?_; (case ho => rfl); (case hg => rfl); (case hn => rfl); (case hr => first | (go_simp; done) | (go_simp; rfl)); intro w25 hw; have hg : wc.grownBy w25 (some go22) := (by rw [hw]; exact HP24.2); have hp_ : Kd.R (Kd.int .u8) 5 w25 w.heap.size (fun _ => True) (.slice (some ⟨go22, 0, none⟩) x7_1.length co23) y362 := (by rw [hw, Ny362.out]; exact HP24.1); clear HP24; have n0_ := Aside0.mk (hp_); have n1_ := Aside0.mk ((by rw [hw]; exact below_set (HB.out) GB22.out : Below w.heap.size w w25)); clear HO_7; clear HB; have HO_7 := n0_; have HB := n1_; clear n0_ n1_; clear hg hw hp_))
             go_roundg kj8
             case measure => have := HK1.out; have := HJ8.out; omega
             case rel => exact ⟨(y362), (wrap64 (x9_1 + 1)), (by first | rfl | (simp; done) | (simp [*]; done)), H', ⟨by have := HK1.out; have := HJ8.out; omega⟩, ⟨by (with_reducible repeat (first | apply Kd.R_alloc | apply Kd.R_drewN | apply Kd.R_drew)); exact HO_7.out⟩, ⟨by repeat (first | (with_reducible first | exact HB.out | apply below_alloc | apply pw_below_drewN | apply below_drew1) | exact HB.out)⟩⟩
            ·rw [if_neg c20] at H
             exact absurd H (by simp)
           ·rw [if_neg c18] at H
            exact absurd H (by simp)
          ·rw [if_neg c17] at H
           exact absurd H (by simp)
         ·rw [if_neg c15] at H
          have c15b0 : ((Go.bits .and .i64 (ji14) 1) == 1) = false := beq_eq_false_iff_ne.mpr c15
          have c15b1 : ((Go.bits .and .i64 (ji14) 1) != 1) = true := bne_iff_ne.mpr c15
          have H' := Aside0.mk H
          clear H
          go_wp2
          go_roundg kj8
          case measure => have := HK1.out; have := HJ8.out; omega
          case rel => exact ⟨(x7_1), (wrap64 (x9_1 + 1)), (by first | rfl | (simp; done) | (simp [*]; done)), H', ⟨by have := HK1.out; have := HJ8.out; omega⟩, ⟨by (with_reducible repeat (first | apply Kd.R_alloc | apply Kd.R_drewN | apply Kd.R_drew)); exact HO_7.out⟩, ⟨by repeat (first | (with_reducible first | exact HB.out | apply below_alloc | apply pw_below_drewN | apply below_drew1) | exact HB.out)⟩⟩
        ·rw [if_neg c13] at H
         exact absurd H (by simp)
       ·replace c11 := Bool.eq_false_iff.mpr c11
        subst c11
        have H1 : (some x7_1) = some r := by rw [if_neg (show ¬ (false = true) by decide)] at H; exact H
        clear H
        have H := H1
        clear H1
        obtain rfl := Option.some.inj H
        go_wp2
        go_ret
        exact ⟨_, by first | rfl | (simp [errW_none, errW_some] <;> rfl) | (simp [*, errW_none, errW_some] <;> rfl), by (with_reducible repeat (first | apply Kd.R_alloc | apply Kd.R_drewN | apply Kd.R_drew)); exact HO_7.out, by repeat (first | (with_reducible first | exact HB.out | apply below_alloc | apply pw_below_drewN | apply below_drew1) | exact HB.out)⟩

end Go.Proofs.Ytcomabcmjhlabaa.FA
