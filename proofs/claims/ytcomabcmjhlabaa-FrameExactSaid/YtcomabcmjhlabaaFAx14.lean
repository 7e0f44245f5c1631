/- Functions of the program, each told as a plain Lean function, and that the program computes it: written by this session's own program. -/
import Derived.Test.YtcomabcmjhlabaaFAx0
import Derived.Test.YtcomabcmjhlabaaFAx6
namespace Go.Proofs.Ytcomabcmjhlabaa.FA
open Go.RowKit Go.Proofs.YtcomabcmjhlabaaW.PrintWords Go.Proofs.YtcomabcmjhlabaaW.PrintLast Go.Proofs.YtcomabcmjhlabaaW.PrintMore
attribute [local go_sem] max2_int min2_int max_two min_two max_three min_three max_four min_four   -- for this text's walks alone
set_option linter.unusedVariables false
set_option linter.unusedSimpArgs false

/-! ### wherryref18_Spoil: function 22 -/
mutual
def wherryref18_Spoil.l0 : Nat → Int → Int → List Int → Int → Int → Option (List Int)
 | 0, _, _, _, _, _ => none
 | k + 1, x1, x2, x7, x8, x9 => if x9 < 16 then (wherryref18_Spoil.j1 k x1 x2 x7 x8 x9 (decide ((wrap64 (x1 + x9)) < x8))) else (wherryref18_Spoil.j1 k x1 x2 x7 x8 x9 false)
def wherryref18_Spoil.j1 : Nat → Int → Int → List Int → Int → Int → Bool → Option (List Int)
 | 0, _, _, _, _, _, _ => none
 | k + 1, x1, x2, x7, x8, x9, x39 => if x39 = true then (if 0 ≤ (IntKind.u64.wrap (x9)) then (if (Go.bits .and .i64 (shr .i64 x2 (IntKind.u64.wrap (x9))) 1) = 1 then (if 0 ≤ (wrap64 (Int.tdiv (wrap64 (x1 + x9)) 8)) then (if (wrap64 (Int.tdiv (wrap64 (x1 + x9)) 8)) < (x7.length : Int) then (if 0 ≤ (IntKind.u64.wrap (Int.tmod (wrap64 (x1 + x9)) 8)) then (wherryref18_Spoil.l0 k x1 x2 (x7.set ((wrap64 (Int.tdiv (wrap64 (x1 + x9)) 8)) : Int).toNat (Go.bits .xor .u8 (rd x7 (wrap64 (Int.tdiv (wrap64 (x1 + x9)) 8))) (shl .u8 1 (IntKind.u64.wrap (Int.tmod (wrap64 (x1 + x9)) 8))))) x8 (wrap64 (x9 + 1))) else (none)) else (none)) else (none)) else (wherryref18_Spoil.l0 k x1 x2 x7 x8 (wrap64 (x9 + 1)))) else (none)) else (some x7)
end
def wherryref18_Spoil.f (k : Nat) (l0 : List Int) (a1 : Int) (a2 : Int) : Option (List Int) := (wherrykeep_Twin.f l0).bind fun t358 => (if (l0.length : Int) = 0 then (some t358) else (if (wrap64 (8 * (l0.length : Int))) = 0 then (none) else (wherryref18_Spoil.l0 k (Int.tmod (wrap64 ((Int.tmod a1 (wrap64 (8 * (l0.length : Int)))) + (wrap64 (8 * (l0.length : Int))))) (wrap64 (8 * (l0.length : Int)))) (Go.bits .or .i64 (Int.tmod (wrap64 ((Int.tmod a2 65536) + 65536)) 65536) 1) t358 (wrap64 (8 * (l0.length : Int))) 0)))
theorem wherryref18_Spoil.mono_l : ∀ k, (∀ y0 y1 y2 y3 y4, LeO (wherryref18_Spoil.l0 k y0 y1 y2 y3 y4) (wherryref18_Spoil.l0 (k + 1) y0 y1 y2 y3 y4)) ∧ (∀ y0 y1 y2 y3 y4 y5, LeO (wherryref18_Spoil.j1 k y0 y1 y2 y3 y4 y5) (wherryref18_Spoil.j1 (k + 1) y0 y1 y2 y3 y4 y5))
 | 0 => ⟨fun _ _ _ _ _ r h => by simp [wherryref18_Spoil.l0] at h, fun _ _ _ _ _ _ r h => by simp [wherryref18_Spoil.j1] at h⟩
 | k + 1 => by
  obtain ⟨ih0, ih1⟩ := wherryref18_Spoil.mono_l k
  refine ⟨?_, ?_⟩
  ·intro y0 y1 y2 y3 y4
   unfold wherryref18_Spoil.l0
   repeat' first
   | (with_reducible exact ih0 _ _ _ _ _)
   | (with_reducible exact ih1 _ _ _ _ _ _)
   | (with_reducible exact LeO.refl _)
   | (with_reducible exact LeO.none _)
   | (with_reducible refine LeO.ite ?_ ?_)
   | (with_reducible refine LeO.bind ?_ (fun _ => ?_))
   | exact ih0 _ _ _ _ _
   | exact ih1 _ _ _ _ _ _
   | exact LeO.none _
   | refine LeO.ite ?_ ?_
   | refine LeO.bind ?_ (fun _ => ?_)
  ·intro y0 y1 y2 y3 y4 y5
   unfold wherryref18_Spoil.j1
   repeat' first
   | (with_reducible exact ih0 _ _ _ _ _)
   | (with_reducible exact ih1 _ _ _ _ _ _)
   | (with_reducible exact LeO.refl _)
   | (with_reducible exact LeO.none _)
   | (with_reducible refine LeO.ite ?_ ?_)
   | (with_reducible refine LeO.bind ?_ (fun _ => ?_))
   | exact ih0 _ _ _ _ _
   | exact ih1 _ _ _ _ _ _
   | exact LeO.none _
   | refine LeO.ite ?_ ?_
   | refine LeO.bind ?_ (fun _ => ?_)
theorem wherryref18_Spoil.mono : ∀ a0 a1 a2 k, LeO (wherryref18_Spoil.f k a0 a1 a2) (wherryref18_Spoil.f (k + 1) a0 a1 a2) := by
 intro a0 a1 a2 k
 obtain ⟨ih0, ih1⟩ := wherryref18_Spoil.mono_l k
 unfold wherryref18_Spoil.f
 repeat' first
   | (with_reducible exact ih0 _ _ _ _ _)
   | (with_reducible exact ih1 _ _ _ _ _ _)
   | (with_reducible exact LeO.refl _)
   | (with_reducible exact LeO.none _)
   | (with_reducible refine LeO.ite ?_ ?_)
   | (with_reducible refine LeO.bind ?_ (fun _ => ?_))
   | exact ih0 _ _ _ _ _
   | exact ih1 _ _ _ _ _ _
   | exact LeO.none _
   | refine LeO.ite ?_ ?_
   | refine LeO.bind ?_ (fun _ => ?_)
set_option maxHeartbeats 8000000 in
set_option maxRecDepth 100000 in
theorem wherryref18_Spoil.calls (k : Nat) (A0 : Option Addr) (c0 : Nat) (l0 : List Int) (a1 : Int) (a2 : Int) (r : List Int) (w : World) (hr0 : Kd.C (Kd.int .u8) w A0 l0.length l0) (hc0 : l0.length ≤ c0) (h : wherryref18_Spoil.f k l0 a1 a2 = some r) :
  Calls Try.prog 22 #[.slice A0 l0.length c0, .int .i64 a1, .int .i64 a2] w fun e w' => ∃ v0_ : Value, e = .returned (v0_) ∧ Kd.R (Kd.int .u8) 5 w' w.heap.size (fun _ => True) v0_ r ∧ Below w.heap.size w w' := by
 have HR0 := Aside0.mk hr0
 have HC0 := Aside0.mk hc0
 clear hr0 hc0
 have HB := Aside0.mk (Below.refl w.heap.size w)
 have H : ((wherrykeep_Twin.f l0).bind fun t358 => (if (l0.length : Int) = 0 then (some t358) else (if (wrap64 (8 * (l0.length : Int))) = 0 then (none) else (wherryref18_Spoil.l0 k (Int.tmod (wrap64 ((Int.tmod a1 (wrap64 (8 * (l0.length : Int)))) + (wrap64 (8 * (l0.length : Int))))) (wrap64 (8 * (l0.length : Int)))) (Go.bits .or .i64 (Int.tmod (wrap64 ((Int.tmod a2 65536) + 65536)) 65536) 1) t358 (wrap64 (8 * (l0.length : Int))) 0)))) = some r := h
 clear h
 replace H := Option.bind_eq_some_iff.mp H
 obtain ⟨t358, A40, H⟩ := H
 replace H : (if (l0.length : Int) = 0 then (some t358) else (if (wrap64 (8 * (l0.length : Int))) = 0 then (none) else (wherryref18_Spoil.l0 k (Int.tmod (wrap64 ((Int.tmod a1 (wrap64 (8 * (l0.length : Int)))) + (wrap64 (8 * (l0.length : Int))))) (wrap64 (8 * (l0.length : Int)))) (Go.bits .or .i64 (Int.tmod (wrap64 ((Int.tmod a2 65536) + 65536)) 65536) 1) t358 (wrap64 (8 * (l0.length : Int))) 0))) = some r := H
 have A4 := Aside0.mk A40
 clear A40
 by_cases c5 : (l0.length : Int) = 0
 ·rw [if_pos c5] at H
  have c5b0 : ((l0.length : Int) == 0) = true := beq_iff_eq.mpr c5
  have c5b1 : ((l0.length : Int) != 0) = false := bne_eq_false_iff_eq.mpr c5
  clear c5
  obtain rfl := Option.some.inj H
  go_enter Try.func22, Try.ntmps22
  go_wp2_with (first | ((with_reducible refine gate_callee (f := 15) rfl ?_); refine goesL_ (some 11) rfl rfl Try.func15 (by kernel_rfl) rfl #[.slice A0 l0.length c0] rfl (by (try simp only [List.map_toArray, List.map_cons, List.map_nil]); first | done | rfl | (simp only [List.length_drop, List.length_take]; rfl) | (go_simp; done) | (go_simp; rfl)) ?_; (with_reducible refine (wherrykeep_Twin.calls _ _ l0 t358 _ ?side1 ?side2 A4.out).mono ?_); (case side1 => first | with_reducible exact HR0.out | exact sC (HR0.out)); (case side2 => exact HC0.out); rintro e w6 ⟨v359, rfl, ho0, hb⟩; refine ⟨_, rfl, ?_⟩; have n0_ := Aside0.mk (Kd.R_lower ho0 (below_size (by first | with_reducible exact HB.out | exact sB HB.out))); have n1_ := Aside0.mk (below_step (by first | with_reducible exact HB.out | exact sB HB.out) hb); clear HB; have HO360 := n0_; have HB := n1_; clear n0_ n1_; (try clear hb); (try clear hb2); (try clear hk); (try clear hi); (try clear ho0)))
  go_ret
  exact ⟨_, by first | rfl | (simp [errW_none, errW_some] <;> rfl) | (simp [*, errW_none, errW_some] <;> rfl), by first | with_reducible exact HO360.out | exact sR HO360.out, by first | with_reducible exact HB.out | exact sB HB.out⟩
 ·rw [if_neg c5] at H
  have c5b0 : ((l0.length : Int) == 0) = false := beq_eq_false_iff_ne.mpr c5
  have c5b1 : ((l0.length : Int) != 0) = true := bne_iff_ne.mpr c5
  have c5b2 : ¬ (l0 = []) := fun h_ => c5 (by rw [h_]; rfl)
  by_cases c7 : (wrap64 (8 * (l0.length : Int))) = 0
  ·rw [if_pos c7] at H
   exact absurd H (by simp)
  ·rw [if_neg c7] at H
   have c7b0 : ((wrap64 (8 * (l0.length : Int))) == 0) = false := beq_eq_false_iff_ne.mpr c7
   have c7b1 : ((wrap64 (8 * (l0.length : Int))) != 0) = true := bne_iff_ne.mpr c7
   have H' := Aside0.mk H
   clear H
   go_enter Try.func22, Try.ntmps22
   go_wp2_with (first | ((with_reducible refine gate_callee (f := 15) rfl ?_); refine goesL_ (some 11) rfl rfl Try.func15 (by kernel_rfl) rfl #[.slice A0 l0.length c0] rfl (by (try simp only [List.map_toArray, List.map_cons, List.map_nil]); first | done | rfl | (simp only [List.length_drop, List.length_take]; rfl) | (go_simp; done) | (go_simp; rfl)) ?_; (with_reducible refine (wherrykeep_Twin.calls _ _ l0 t358 _ ?side1 ?side2 A4.out).mono ?_); (case side1 => first | with_reducible exact HR0.out | exact sC (HR0.out)); (case side2 => exact HC0.out); rintro e w8 ⟨v359, rfl, ho0, hb⟩; refine ⟨_, rfl, ?_⟩; have n0_ := Aside0.mk (Kd.R_lower ho0 (below_size (by first | with_reducible exact HB.out | exact sB HB.out))); have n1_ := Aside0.mk (below_step (by first | with_reducible exact HB.out | exact sB HB.out) hb); clear HB; have HO360 := n0_; have HB := n1_; clear n0_ n1_; (try clear hb); (try clear hb2); (try clear hk); (try clear hi); (try clear ho0)))
   go_loopg [9] k (fun kq v9 w' => ∃ (x7_1 : List Int) (x9_1 : Int), v9 = .int .i64 x9_1 ∧ Aside0 (wherryref18_Spoil.l0 kq (Int.tmod (wrap64 ((Int.tmod a1 (wrap64 (8 * (l0.length : Int)))) + (wrap64 (8 * (l0.length : Int))))) (wrap64 (8 * (l0.length : Int)))) (Go.bits .or .i64 (Int.tmod (wrap64 ((Int.tmod a2 65536) + 65536)) 65536) 1) x7_1 (wrap64 (8 * (l0.length : Int))) x9_1 = some r) ∧ Aside0 (kq ≤ k) ∧ Aside0 (Kd.R (Kd.int .u8) 5 w' w.heap.size (fun _ => True) v359 x7_1) ∧ Aside0 (Below w.heap.size w w'))
   case atStart => exact ⟨(t358), (0), (by first | rfl | (simp; done) | (simp [*]; done)), H', ⟨Nat.le_refl _⟩, ⟨by first | with_reducible exact HO360.out | exact sR HO360.out⟩, ⟨by first | with_reducible exact HB.out | exact sB HB.out⟩⟩
   case round =>
    clear H'
    try clear c1
    try clear c2
    try clear p2
    try clear c5
    try clear c5b0
    try clear c5b1
    try clear c5b2
    try clear p6
    try clear c7
    try clear c7b0
    try clear c7b1
    obtain ⟨x7_1, x9_1, rfl, HA, HK1, HO_7, HB⟩ := hrel
    cases gk with
    | zero => exact absurd HA.out (by simp [wherryref18_Spoil.l0])
    | succ k1 =>
     have H := HA.out
     clear HA
     simp only [wherryref18_Spoil.l0] at H
     have HC9 := Aside0.mk H
     clear H
     go_upto_region 8 with (fail)
     go_cut [39] (fun v39 wc => ∃ (kq : Nat) (x39_8 : Bool), v39 = .bool x39_8 ∧ Aside0 (wherryref18_Spoil.j1 kq (Int.tmod (wrap64 ((Int.tmod a1 (wrap64 (8 * (l0.length : Int)))) + (wrap64 (8 * (l0.length : Int))))) (wrap64 (8 * (l0.length : Int)))) (Go.bits .or .i64 (Int.tmod (wrap64 ((Int.tmod a2 65536) + 65536)) 65536) 1) x7_1 (wrap64 (8 * (l0.length : Int))) x9_1 x39_8 = some r) ∧ Aside0 (kq ≤ k1) ∧ Aside0 (Kd.R (Kd.int .u8) 5 wc w.heap.size (fun _ => True) v359 x7_1) ∧ Aside0 (Below w.heap.size w wc))
     case first =>
      have H := HC9.out
      clear HC9
      by_cases c10 : x9_1 < 16
      ·rw [if_pos c10] at H
       have c10b0 : decide (x9_1 < 16) = true := decide_eq_true c10
       clear c10
       (first | rw [c10b0] | (simp only [i64_w, i32_w]; rw [c10b0]) | skip)
       have H' := Aside0.mk H
       clear H
       go_wp2
       go_meet
       case rel => exact ⟨_, (decide ((wrap64 ((Int.tmod (wrap64 ((Int.tmod a1 (wrap64 (8 * (l0.length : Int)))) + (wrap64 (8 * (l0.length : Int))))) (wrap64 (8 * (l0.length : Int)))) + x9_1)) < (wrap64 (8 * (l0.length : Int))))), (by first | rfl | (simp; done) | (simp [*]; done)), H', ⟨by have := HK1.out; first | omega | exact Nat.le_refl _⟩, ⟨by first | with_reducible exact HO_7.out | exact sR HO_7.out⟩, ⟨by first | with_reducible exact HB.out | exact sB HB.out⟩⟩
      ·rw [if_neg c10] at H
       have c10b0 : decide (x9_1 < 16) = false := decide_eq_false c10
       clear c10
       (first | rw [c10b0] | (simp only [i64_w, i32_w]; rw [c10b0]) | skip)
       have H' := Aside0.mk H
       clear H
       go_wp2
       go_meet
       case rel => exact ⟨_, (false), (by first | rfl | (simp; done) | (simp [*]; done)), H', ⟨by have := HK1.out; first | omega | exact Nat.le_refl _⟩, ⟨by first | with_reducible exact HO_7.out | exact sR HO_7.out⟩, ⟨by first | with_reducible exact HB.out | exact sB HB.out⟩⟩
     case rest =>
      clear HC9
      try clear c1
      try clear c2
      try clear p2
      try clear c5
      try clear c5b0
      try clear c5b1
      try clear c5b2
      try clear p6
      try clear c7
      try clear c7b0
      try clear c7b1
      try clear c10
      try clear c10b0
      try clear p2
      try clear p6
      obtain ⟨kq, x39_8, rfl, HA, HJ8, HO_7, HB⟩ := hcut
      cases kq with
      | zero => exact absurd HA.out (by simp [wherryref18_Spoil.j1])
      | succ kj8 =>
       have H := HA.out
       clear HA
       simp only [wherryref18_Spoil.j1] at H
       by_cases c11 : x39_8 = true
       ·subst c11
        have H1 : (if 0 ≤ (IntKind.u64.wrap (x9_1)) then (if (Go.bits .and .i64 (shr .i64 (Go.bits .or .i64 (Int.tmod (wrap64 ((Int.tmod a2 65536) + 65536)) 65536) 1) (IntKind.u64.wrap (x9_1))) 1) = 1 then (if 0 ≤ (wrap64 (Int.tdiv (wrap64 ((Int.tmod (wrap64 ((Int.tmod a1 (wrap64 (8 * (l0.length : Int)))) + (wrap64 (8 * (l0.length : Int))))) (wrap64 (8 * (l0.length : Int)))) + x9_1)) 8)) then (if (wrap64 (Int.tdiv (wrap64 ((Int.tmod (wrap64 ((Int.tmod a1 (wrap64 (8 * (l0.length : Int)))) + (wrap64 (8 * (l0.length : Int))))) (wrap64 (8 * (l0.length : Int)))) + x9_1)) 8)) < (x7_1.length : Int) then (if 0 ≤ (IntKind.u64.wrap (Int.tmod (wrap64 ((Int.tmod (wrap64 ((Int.tmod a1 (wrap64 (8 * (l0.length : Int)))) + (wrap64 (8 * (l0.length : Int))))) (wrap64 (8 * (l0.length : Int)))) + x9_1)) 8)) then (wherryref18_Spoil.l0 kj8 (Int.tmod (wrap64 ((Int.tmod a1 (wrap64 (8 * (l0.length : Int)))) + (wrap64 (8 * (l0.length : Int))))) (wrap64 (8 * (l0.length : Int)))) (Go.bits .or .i64 (Int.tmod (wrap64 ((Int.tmod a2 65536) + 65536)) 65536) 1) (x7_1.set ((wrap64 (Int.tdiv (wrap64 ((Int.tmod (wrap64 ((Int.tmod a1 (wrap64 (8 * (l0.length : Int)))) + (wrap64 (8 * (l0.length : Int))))) (wrap64 (8 * (l0.length : Int)))) + x9_1)) 8)) : Int).toNat (Go.bits .xor .u8 (rd x7_1 (wrap64 (Int.tdiv (wrap64 ((Int.tmod (wrap64 ((Int.tmod a1 (wrap64 (8 * (l0.length : Int)))) + (wrap64 (8 * (l0.length : Int))))) (wrap64 (8 * (l0.length : Int)))) + x9_1)) 8))) (shl .u8 1 (IntKind.u64.wrap (Int.tmod (wrap64 ((Int.tmod (wrap64 ((Int.tmod a1 (wrap64 (8 * (l0.length : Int)))) + (wrap64 (8 * (l0.length : Int))))) (wrap64 (8 * (l0.length : Int)))) + x9_1)) 8))))) (wrap64 (8 * (l0.length : Int))) (wrap64 (x9_1 + 1))) else (none)) else (none)) else (none)) else (wherryref18_Spoil.l0 kj8 (Int.tmod (wrap64 ((Int.tmod a1 (wrap64 (8 * (l0.length : Int)))) + (wrap64 (8 * (l0.length : Int))))) (wrap64 (8 * (l0.length : Int)))) (Go.bits .or .i64 (Int.tmod (wrap64 ((Int.tmod a2 65536) + 65536)) 65536) 1) x7_1 (wrap64 (8 * (l0.length : Int))) (wrap64 (x9_1 + 1)))) else (none)) = some r := by rw [if_pos rfl] at H; exact H
        clear H
        have H := H1
        clear H1
        obtain ⟨ji12, hji12⟩ : ∃ j_ : Int, (IntKind.u64.wrap (x9_1)) = j_ := ⟨_, rfl⟩
        replace H : (if 0 ≤ (ji12) then (if (Go.bits .and .i64 (shr .i64 (Go.bits .or .i64 (Int.tmod (wrap64 ((Int.tmod a2 65536) + 65536)) 65536) 1) (ji12)) 1) = 1 then (if 0 ≤ (wrap64 (Int.tdiv (wrap64 ((Int.tmod (wrap64 ((Int.tmod a1 (wrap64 (8 * (l0.length : Int)))) + (wrap64 (8 * (l0.length : Int))))) (wrap64 (8 * (l0.length : Int)))) + x9_1)) 8)) then (if (wrap64 (Int.tdiv (wrap64 ((Int.tmod (wrap64 ((Int.tmod a1 (wrap64 (8 * (l0.length : Int)))) + (wrap64 (8 * (l0.length : Int))))) (wrap64 (8 * (l0.length : Int)))) + x9_1)) 8)) < (x7_1.length : Int) then (if 0 ≤ (IntKind.u64.wrap (Int.tmod (wrap64 ((Int.tmod (wrap64 ((Int.tmod a1 (wrap64 (8 * (l0.length : Int)))) + (wrap64 (8 * (l0.length : Int))))) (wrap64 (8 * (l0.length : Int)))) + x9_1)) 8)) then (wherryref18_Spoil.l0 kj8 (Int.tmod (wrap64 ((Int.tmod a1 (wrap64 (8 * (l0.length : Int)))) + (wrap64 (8 * (l0.length : Int))))) (wrap64 (8 * (l0.length : Int)))) (Go.bits .or .i64 (Int.tmod (wrap64 ((Int.tmod a2 65536) + 65536)) 65536) 1) (x7_1.set ((wrap64 (Int.tdiv (wrap64 ((Int.tmod (wrap64 ((Int.tmod a1 (wrap64 (8 * (l0.length : Int)))) + (wrap64 (8 * (l0.length : Int))))) (wrap64 (8 * (l0.length : Int)))) + x9_1)) 8)) : Int).toNat (Go.bits .xor .u8 (rd x7_1 (wrap64 (Int.tdiv (wrap64 ((Int.tmod (wrap64 ((Int.tmod a1 (wrap64 (8 * (l0.length : Int)))) + (wrap64 (8 * (l0.length : Int))))) (wrap64 (8 * (l0.length : Int)))) + x9_1)) 8))) (shl .u8 1 (IntKind.u64.wrap (Int.tmod (wrap64 ((Int.tmod (wrap64 ((Int.tmod a1 (wrap64 (8 * (l0.length : Int)))) + (wrap64 (8 * (l0.length : Int))))) (wrap64 (8 * (l0.length : Int)))) + x9_1)) 8))))) (wrap64 (8 * (l0.length : Int))) (wrap64 (x9_1 + 1))) else (none)) else (none)) else (none)) else (wherryref18_Spoil.l0 kj8 (Int.tmod (wrap64 ((Int.tmod a1 (wrap64 (8 * (l0.length : Int)))) + (wrap64 (8 * (l0.length : Int))))) (wrap64 (8 * (l0.length : Int)))) (Go.bits .or .i64 (Int.tmod (wrap64 ((Int.tmod a2 65536) + 65536)) 65536) 1) x7_1 (wrap64 (8 * (l0.length : Int))) (wrap64 (x9_1 + 1)))) else (none)) = some r := by first | (rw [hji12] at H; exact H) | (simp only [hji12] at H ⊢; exact H)
        by_cases c13 : 0 ≤ (ji12)
        ·rw [if_pos c13] at H
         have c13b0 := eq_true c13
         have c13b1 : decide (0 ≤ (ji12)) = true := decide_eq_true c13
         clear c13
         obtain ⟨ji14, hji14⟩ : ∃ j_ : Int, (shr .i64 (Go.bits .or .i64 (Int.tmod (wrap64 ((Int.tmod a2 65536) + 65536)) 65536) 1) (ji12)) = j_ := ⟨_, rfl⟩
         replace H : (if (Go.bits .and .i64 (ji14) 1) = 1 then (if 0 ≤ (wrap64 (Int.tdiv (wrap64 ((Int.tmod (wrap64 ((Int.tmod a1 (wrap64 (8 * (l0.length : Int)))) + (wrap64 (8 * (l0.length : Int))))) (wrap64 (8 * (l0.length : Int)))) + x9_1)) 8)) then (if (wrap64 (Int.tdiv (wrap64 ((Int.tmod (wrap64 ((Int.tmod a1 (wrap64 (8 * (l0.length : Int)))) + (wrap64 (8 * (l0.length : Int))))) (wrap64 (8 * (l0.length : Int)))) + x9_1)) 8)) < (x7_1.length : Int) then (if 0 ≤ (IntKind.u64.wrap (Int.tmod (wrap64 ((Int.tmod (wrap64 ((Int.tmod a1 (wrap64 (8 * (l0.length : Int)))) + (wrap64 (8 * (l0.length : Int))))) (wrap64 (8 * (l0.length : Int)))) + x9_1)) 8)) then (wherryref18_Spoil.l0 kj8 (Int.tmod (wrap64 ((Int.tmod a1 (wrap64 (8 * (l0.length : Int)))) + (wrap64 (8 * (l0.length : Int))))) (wrap64 (8 * (l0.length : Int)))) (Go.bits .or .i64 (Int.tmod (wrap64 ((Int.tmod a2 65536) + 65536)) 65536) 1) (x7_1.set ((wrap64 (Int.tdiv (wrap64 ((Int.tmod (wrap64 ((Int.tmod a1 (wrap64 (8 * (l0.length : Int)))) + (wrap64 (8 * (l0.length : Int))))) (wrap64 (8 * (l0.length : Int)))) + x9_1)) 8)) : Int).toNat (Go.bits .xor .u8 (rd x7_1 (wrap64 (Int.tdiv (wrap64 ((Int.tmod (wrap64 ((Int.tmod a1 (wrap64 (8 * (l0.length : Int)))) + (wrap64 (8 * (l0.length : Int))))) (wrap64 (8 * (l0.length : Int)))) + x9_1)) 8))) (shl .u8 1 (IntKind.u64.wrap (Int.tmod (wrap64 ((Int.tmod (wrap64 ((Int.tmod a1 (wrap64 (8 * (l0.length : Int)))) + (wrap64 (8 * (l0.length : Int))))) (wrap64 (8 * (l0.length : Int)))) + x9_1)) 8))))) (wrap64 (8 * (l0.length : Int))) (wrap64 (x9_1 + 1))) else (none)) else (none)) else (none)) else (wherryref18_Spoil.l0 kj8 (Int.tmod (wrap64 ((Int.tmod a1 (wrap64 (8 * (l0.length : Int)))) + (wrap64 (8 * (l0.length : Int))))) (wrap64 (8 * (l0.length : Int)))) (Go.bits .or .i64 (Int.tmod (wrap64 ((Int.tmod a2 65536) + 65536)) 65536) 1) x7_1 (wrap64 (8 * (l0.length : Int))) (wrap64 (x9_1 + 1)))) = some r := by first | (rw [hji14] at H; exact H) | (simp only [hji14] at H ⊢; exact H)
         have hji14_ : ((Go.bits .or .i64 (Int.tmod (wrap64 ((Int.tmod a2 65536) + 65536)) 65536) 1) / 2 ^ min (ji12).toNat 64) = ji14 := hji14
         have hji14z : (ji12) ≤ 64 → ((Go.bits .or .i64 (Int.tmod (wrap64 ((Int.tmod a2 65536) + 65536)) 65536) 1) / 2 ^ (ji12).toNat) = ji14 := shr_small hji14
         by_cases c15 : (Go.bits .and .i64 (ji14) 1) = 1
         ·rw [if_pos c15] at H
          have c15b0 : ((Go.bits .and .i64 (ji14) 1) == 1) = true := beq_iff_eq.mpr c15
          have c15b1 : ((Go.bits .and .i64 (ji14) 1) != 1) = false := bne_eq_false_iff_eq.mpr c15
          clear c15
          obtain ⟨ji16, hji16⟩ : ∃ j_ : Int, (wrap64 (Int.tdiv (wrap64 ((Int.tmod (wrap64 ((Int.tmod a1 (wrap64 (8 * (l0.length : Int)))) + (wrap64 (8 * (l0.length : Int))))) (wrap64 (8 * (l0.length : Int)))) + x9_1)) 8)) = j_ := ⟨_, rfl⟩
          replace H : (if 0 ≤ (ji16) then (if (ji16) < (x7_1.length : Int) then (if 0 ≤ (IntKind.u64.wrap (Int.tmod (wrap64 ((Int.tmod (wrap64 ((Int.tmod a1 (wrap64 (8 * (l0.length : Int)))) + (wrap64 (8 * (l0.length : Int))))) (wrap64 (8 * (l0.length : Int)))) + x9_1)) 8)) then (wherryref18_Spoil.l0 kj8 (Int.tmod (wrap64 ((Int.tmod a1 (wrap64 (8 * (l0.length : Int)))) + (wrap64 (8 * (l0.length : Int))))) (wrap64 (8 * (l0.length : Int)))) (Go.bits .or .i64 (Int.tmod (wrap64 ((Int.tmod a2 65536) + 65536)) 65536) 1) (x7_1.set ((ji16) : Int).toNat (Go.bits .xor .u8 (rd x7_1 (ji16)) (shl .u8 1 (IntKind.u64.wrap (Int.tmod (wrap64 ((Int.tmod (wrap64 ((Int.tmod a1 (wrap64 (8 * (l0.length : Int)))) + (wrap64 (8 * (l0.length : Int))))) (wrap64 (8 * (l0.length : Int)))) + x9_1)) 8))))) (wrap64 (8 * (l0.length : Int))) (wrap64 (x9_1 + 1))) else (none)) else (none)) else (none)) = some r := by first | (rw [hji16] at H; exact H) | (simp only [hji16] at H ⊢; exact H)
          have hji16w : (IntKind.i64.wrap (Int.tdiv (wrap64 ((Int.tmod (wrap64 ((Int.tmod a1 (wrap64 (8 * (l0.length : Int)))) + (wrap64 (8 * (l0.length : Int))))) (wrap64 (8 * (l0.length : Int)))) + x9_1)) 8)) = ji16 := (i64_w _).trans hji16
          by_cases c17 : 0 ≤ (ji16)
          ·rw [if_pos c17] at H
           have c17b0 : decide (0 ≤ (ji16)) = true := decide_eq_true c17
           clear c17
           by_cases c18 : (ji16) < (x7_1.length : Int)
           ·rw [if_pos c18] at H
            have c18b0 : decide ((ji16) < (x7_1.length : Int)) = true := decide_eq_true c18
            clear c18
            obtain ⟨ji19, hji19⟩ : ∃ j_ : Int, (IntKind.u64.wrap (Int.tmod (wrap64 ((Int.tmod (wrap64 ((Int.tmod a1 (wrap64 (8 * (l0.length : Int)))) + (wrap64 (8 * (l0.length : Int))))) (wrap64 (8 * (l0.length : Int)))) + x9_1)) 8)) = j_ := ⟨_, rfl⟩
            replace H : (if 0 ≤ (ji19) then (wherryref18_Spoil.l0 kj8 (Int.tmod (wrap64 ((Int.tmod a1 (wrap64 (8 * (l0.length : Int)))) + (wrap64 (8 * (l0.length : Int))))) (wrap64 (8 * (l0.length : Int)))) (Go.bits .or .i64 (Int.tmod (wrap64 ((Int.tmod a2 65536) + 65536)) 65536) 1) (x7_1.set ((ji16) : Int).toNat (Go.bits .xor .u8 (rd x7_1 (ji16)) (shl .u8 1 (ji19)))) (wrap64 (8 * (l0.length : Int))) (wrap64 (x9_1 + 1))) else (none)) = some r := by first | (rw [hji19] at H; exact H) | (simp only [hji19] at H ⊢; exact H)
            by_cases c20 : 0 ≤ (ji19)
            ·rw [if_pos c20] at H
             have c20b0 := eq_true c20
             have c20b1 : decide (0 ≤ (ji19)) = true := decide_eq_true c20
             clear c20
             obtain ⟨ji21, hji21⟩ : ∃ j_ : Int, (shl .u8 1 (ji19)) = j_ := ⟨_, rfl⟩
             replace H : (wherryref18_Spoil.l0 kj8 (Int.tmod (wrap64 ((Int.tmod a1 (wrap64 (8 * (l0.length : Int)))) + (wrap64 (8 * (l0.length : Int))))) (wrap64 (8 * (l0.length : Int)))) (Go.bits .or .i64 (Int.tmod (wrap64 ((Int.tmod a2 65536) + 65536)) 65536) 1) (x7_1.set ((ji16) : Int).toNat (Go.bits .xor .u8 (rd x7_1 (ji16)) (ji21))) (wrap64 (8 * (l0.length : Int))) (wrap64 (x9_1 + 1))) = some r := by first | (rw [hji21] at H; exact H) | (simp only [hji21] at H ⊢; exact H)
             have hji21_ : (IntKind.u8.wrap (1 * 2 ^ min (ji19).toNat 8)) = ji21 := hji21
             have hji21z : (ji19) ≤ 8 → (IntKind.u8.wrap (1 * 2 ^ (ji19).toNat)) = ji21 := shl_small hji21
             have hji21u : (IntKind.u8.wrap (2 ^ min (ji19).toNat 8)) = ji21 := by have h_ := hji21_; rw [Int.one_mul] at h_; exact h_
             have hji21v : (ji19) ≤ 8 → (IntKind.u8.wrap (2 ^ (ji19).toNat)) = ji21 := fun hle_ => by have h_ := hji21z hle_; rw [Int.one_mul] at h_; exact h_
             obtain ⟨y362, hy362⟩ : ∃ y_ : List Int, y_ = (x7_1.set ((ji16) : Int).toNat (Go.bits .xor .u8 (rd x7_1 (ji16)) (ji21))) := ⟨_, rfl⟩
             replace H : (wherryref18_Spoil.l0 kj8 (Int.tmod (wrap64 ((Int.tmod a1 (wrap64 (8 * (l0.length : Int)))) + (wrap64 (8 * (l0.length : Int))))) (wrap64 (8 * (l0.length : Int)))) (Go.bits .or .i64 (Int.tmod (wrap64 ((Int.tmod a2 65536) + 65536)) 65536) 1) y362 (wrap64 (8 * (l0.length : Int))) (wrap64 (x9_1 + 1))) = some r := by first | (rw [hy362]; with_reducible exact H) | (have H2_ := (Option.bind_some _ _).symm.trans H; rw [hy362]; with_reducible exact H2_) | (have H2_ := (Option.bind_some _ _).symm.trans H; with_reducible exact H2_) | with_reducible exact H | (rw [hy362]; exact H) | exact H
             have Ny362 := Aside0.mk hy362
             clear hy362
             have H' := Aside0.mk H
             clear H
             obtain ⟨Ao23, co23, eo23⟩ := Kd.R_slice HO_7.out
             subst eo23
             have p361 : 0 ≤ ((ji16) : Int) := of_decide_eq_true (by first | (with_reducible assumption) | assumption)
             have q361 : (ji16) < (x7_1.length : Int) := of_decide_eq_true (by first | (with_reducible assumption) | assumption)
             obtain ⟨ad361, e361, hx361_0⟩ := Kd.at_int (Kd.R_reads' HO_7.out).2.2 (ji16) p361 q361
             cases e361
             replace p361 := eq_true p361
             replace q361 := eq_true q361
             have p22 : 0 ≤ ((ji16) : Int) := of_decide_eq_true (by first | (with_reducible assumption) | assumption)
             have q22 : ((ji16) : Int) < ((x7_1.length : Int) : Int) := of_decide_eq_true (by first | (with_reducible assumption) | assumption)
             obtain ⟨go22, co22, eo22, gb22, gl22, cl22, HG22⟩ := Kd.R_form HO_7.out (by omega)
             (first | cases eo22 | (injection eo22 with ea_ en_ ec_; (first | subst ea_ | (injection ea_ with ea_; subst ea_)); subst ec_; clear en_))
             have GB22 := Aside0.mk gb22
             have GG22 := Aside0.mk HG22
             clear gb22 gl22 HG22
             (first | simp only [add_plain] at hx361_0 | skip)
             obtain ⟨hx22_0, hf22_0⟩ := Kd.R_celln 0 HO_7.out ((ji16) : Int) p22 q22
             replace p22 := eq_true p22
             replace q22 := eq_true q22
             have HP24 := Kd.R_putg HO_7.out ((ji16) : Int) (Go.bits .xor .u8 (rd x7_1 (ji16)) (ji21))
             go_wp2_with (first | ((with_reducible refine gate_store (t := 5) (p := 67) rfl ?_); refine store_event (t := 5) (p := 67) (v := ?vo_w25) (w1 := (wc.setCell ⟨go22, ((ji16) : Int).toNat, none⟩ (.int .u8 (Go.bits .xor .u8 (rd x7_1 (ji16)) (ji21))))) ?hg ?ho ?hn ?hr ?_; (case ho => rfl); (case hg => rfl); (case hn => rfl); (case hr => first | (go_simp; done) | (go_simp; rfl)); intro w25 hw; have hg : wc.grownBy w25 (some go22) := (by rw [hw]; exact HP24.2); have hp_ : Kd.R (Kd.int .u8) 5 w25 w.heap.size (fun _ => True) (.slice (some ⟨go22, 0, none⟩) x7_1.length co23) y362 := (by rw [hw, Ny362.out]; exact HP24.1); clear HP24; have n0_ := Aside0.mk (hp_); have n1_ := Aside0.mk ((by rw [hw]; exact below_set (HB.out) GB22.out : Below w.heap.size w w25)); clear HO_7; clear HB; have HO_7 := n0_; have HB := n1_; clear n0_ n1_; clear hg hw hp_))
             go_roundg kj8
             case measure => have := HK1.out; have := HJ8.out; omega
             case rel => exact ⟨(y362), (wrap64 (x9_1 + 1)), (by first | rfl | (simp; done) | (simp [*]; done)), H', ⟨by have := HK1.out; have := HJ8.out; omega⟩, ⟨by first | with_reducible exact HO_7.out | exact sR HO_7.out⟩, ⟨by first | with_reducible exact HB.out | exact sB HB.out⟩⟩
            ·rw [if_neg c20] at H
             exact absurd H (by simp)
           ·rw [if_neg c18] at H
            exact absurd H (by simp)
          ·rw [if_neg c17] at H
           exact absurd H (by simp)
         ·rw [if_neg c15] at H
          have c15b0 : ((Go.bits .and .i64 (ji14) 1) == 1) = false := beq_eq_false_iff_ne.mpr c15
          have c15b1 : ((Go.bits .and .i64 (ji14) 1) != 1) = true := bne_iff_ne.mpr c15
          have H' := Aside0.mk H
          clear H
          go_wp2
          go_roundg kj8
          case measure => have := HK1.out; have := HJ8.out; omega
          case rel => exact ⟨(x7_1), (wrap64 (x9_1 + 1)), (by first | rfl | (simp; done) | (simp [*]; done)), H', ⟨by have := HK1.out; have := HJ8.out; omega⟩, ⟨by first | with_reducible exact HO_7.out | exact sR HO_7.out⟩, ⟨by first | with_reducible exact HB.out | exact sB HB.out⟩⟩
        ·rw [if_neg c13] at H
         exact absurd H (by simp)
       ·replace c11 := Bool.eq_false_iff.mpr c11
        subst c11
        have H1 : (some x7_1) = some r := by rw [if_neg (show ¬ (false = true) by decide)] at H; exact H
        clear H
        have H := H1
        clear H1
        obtain rfl := Option.some.inj H
        go_wp2
        go_ret
        exact ⟨_, by first | rfl | (simp [errW_none, errW_some] <;> rfl) | (simp [*, errW_none, errW_some] <;> rfl), by first | with_reducible exact HO_7.out | exact sR HO_7.out, by first | with_reducible exact HB.out | exact sB HB.out⟩

/-! ### wherrykeep_Over: function 23 -/
def wherrykeep_Over.l0 : Nat → List Int → Int → Option (List Int)
 | 0, _, _ => none
 | k + 1, x0, x2 => if x2 < (x0.length : Int) then (if 0 ≤ x2 then (wherrykeep_Over.l0 k (x0.set (x2 : Int).toNat (((rd x0 x2) + 91) % 256)) (wrap64 (x2 + 1))) else (none)) else (some x0)
def wherrykeep_Over.f (k : Nat) (l0 : List Int) : Option (List Int) := wherrykeep_Over.l0 k l0 0
theorem wherrykeep_Over.mono_l : ∀ k, (∀ y0 y1, LeO (wherrykeep_Over.l0 k y0 y1) (wherrykeep_Over.l0 (k + 1) y0 y1))
 | 0 => fun _ _ r h => by simp [wherrykeep_Over.l0] at h
 | k + 1 => by
  have ih0 := wherrykeep_Over.mono_l k
  ·intro y0 y1
   unfold wherrykeep_Over.l0
   repeat' first
   | (with_reducible exact ih0 _ _)
   | (with_reducible exact LeO.refl _)
   | (with_reducible exact LeO.none _)
   | (with_reducible refine LeO.ite ?_ ?_)
   | (with_reducible refine LeO.bind ?_ (fun _ => ?_))
   | exact ih0 _ _
   | exact LeO.none _
   | refine LeO.ite ?_ ?_
   | refine LeO.bind ?_ (fun _ => ?_)
theorem wherrykeep_Over.mono : ∀ a0 k, LeO (wherrykeep_Over.f k a0) (wherrykeep_Over.f (k + 1) a0) := by
 intro a0 k
 have ih0 := wherrykeep_Over.mono_l k
 unfold wherrykeep_Over.f
 repeat' first
   | (with_reducible exact ih0 _ _)
   | (with_reducible exact LeO.refl _)
   | (with_reducible exact LeO.none _)
   | (with_reducible refine LeO.ite ?_ ?_)
   | (with_reducible refine LeO.bind ?_ (fun _ => ?_))
   | exact ih0 _ _
   | exact LeO.none _
   | refine LeO.ite ?_ ?_
   | refine LeO.bind ?_ (fun _ => ?_)
set_option maxHeartbeats 8000000 in
set_option maxRecDepth 100000 in
theorem wherrykeep_Over.calls (k : Nat) (P0_ : Nat → Prop) (u9000_ : Value) (l0 : List Int) (r : List Int) (w0 w : World) (hB : Below w0.heap.size w0 w) (ho0 : Kd.R (Kd.int .u8) 5 w w0.heap.size P0_ u9000_ l0) (h : wherrykeep_Over.f k l0 = some r) :
  Calls Try.prog 23 #[u9000_] w fun e w' => e = .returned (.tuple #[]) ∧ Kd.R (Kd.int .u8) 5 w' w0.heap.size (fun k_ => (P0_ k_ ∨ w.heap.size ≤ k_)) u9000_ r ∧ Below w0.heap.size w0 w' ∧ Kept w w' (fun k_ => P0_ k_) := by
 have HO0 := Aside0.mk (show Kd.R (Kd.int .u8) 5 w w0.heap.size (fun k_ => (P0_ k_ ∨ w.heap.size ≤ k_)) u9000_ l0 from Kd.R_mono ho0 (fun k_ hk => (.inl hk)))
 have HK := Aside0.mk (Kept.refl w (fun k_ => P0_ k_))
 have HW0 := Aside0.mk hB.size
 have HB := Aside0.mk hB
 clear hB
 have H : (wherrykeep_Over.l0 k l0 0) = some r := h
 clear h
 have H' := Aside0.mk H
 clear H
 go_enter Try.func23, Try.ntmps23
 go_wp2
 go_loopg [2] k (fun kq v2 w' => ∃ (x0_1 : List Int) (x2_1 : Int), v2 = .int .i64 x2_1 ∧ Aside0 (wherrykeep_Over.l0 kq x0_1 x2_1 = some r) ∧ Aside0 (kq ≤ k) ∧ Aside0 (Kd.R (Kd.int .u8) 5 w' w0.heap.size (fun k_ => (P0_ k_ ∨ w.heap.size ≤ k_)) u9000_ x0_1) ∧ Aside0 (Kept w w' (fun k_ => P0_ k_)) ∧ Aside0 (Below w0.heap.size w0 w'))
 case atStart => exact ⟨(l0), (0), (by first | rfl | (simp; done) | (simp [*]; done)), H', ⟨Nat.le_refl _⟩, ⟨by first | with_reducible exact HO0.out | exact sR HO0.out⟩, ⟨by repeat (first | (with_reducible first | exact HK.out | apply Kept.alloc | apply Kept.drewN | apply Kept.drew) | exact HK.out)⟩, ⟨by first | with_reducible exact HB.out | exact sB HB.out⟩⟩
 case round =>
  clear H'
  obtain ⟨x0_1, x2_1, rfl, HA, HK1, HO_0, HK, HB⟩ := hrel
  cases gk with
  | zero => exact absurd HA.out (by simp [wherrykeep_Over.l0])
  | succ k1 =>
   have H := HA.out
   clear HA
   simp only [wherrykeep_Over.l0] at H
   by_cases c2 : x2_1 < (x0_1.length : Int)
   ·rw [if_pos c2] at H
    have c2b0 : decide (x2_1 < (x0_1.length : Int)) = true := decide_eq_true c2
    clear c2
    by_cases c3 : 0 ≤ x2_1
    ·rw [if_pos c3] at H
     have c3b0 : decide (0 ≤ x2_1) = true := decide_eq_true c3
     clear c3
     obtain ⟨y364, hy364⟩ : ∃ y_ : List Int, y_ = (x0_1.set (x2_1 : Int).toNat (((rd x0_1 x2_1) + 91) % 256)) := ⟨_, rfl⟩
     replace H : (wherrykeep_Over.l0 k1 y364 (wrap64 (x2_1 + 1))) = some r := by first | (rw [hy364]; with_reducible exact H) | (have H2_ := (Option.bind_some _ _).symm.trans H; rw [hy364]; with_reducible exact H2_) | (have H2_ := (Option.bind_some _ _).symm.trans H; with_reducible exact H2_) | with_reducible exact H | (rw [hy364]; exact H) | exact H
     have Ny364 := Aside0.mk hy364
     clear hy364
     have H' := Aside0.mk H
     clear H
     obtain ⟨Ao5, co5, eo5⟩ := Kd.R_slice HO_0.out
     subst eo5
     have p363 : 0 ≤ (x2_1 : Int) := of_decide_eq_true (by first | (with_reducible assumption) | assumption)
     have q363 : x2_1 < (x0_1.length : Int) := of_decide_eq_true (by first | (with_reducible assumption) | assumption)
     obtain ⟨ad363, e363, hx363_0⟩ := Kd.at_int (Kd.R_reads' HO_0.out).2.2 x2_1 p363 q363
     cases e363
     replace p363 := eq_true p363
     replace q363 := eq_true q363
     have p4 : 0 ≤ (x2_1 : Int) := of_decide_eq_true (by first | (with_reducible assumption) | assumption)
     have q4 : (x2_1 : Int) < ((x0_1.length : Int) : Int) := of_decide_eq_true (by first | (with_reducible assumption) | assumption)
     obtain ⟨go4, co4, eo4, gb4, gl4, cl4, HG4⟩ := Kd.R_form HO_0.out (by omega)
     (first | cases eo4 | (injection eo4 with ea_ en_ ec_; (first | subst ea_ | (injection ea_ with ea_; subst ea_)); subst ec_; clear en_))
     have GB4 := Aside0.mk gb4
     have GG4 := Aside0.mk HG4
     clear gb4 gl4 HG4
     have HMgo4 := Aside0.mk (show (P0_ go4 ∨ w.heap.size ≤ go4) from (HO_0.out.1 _ rfl))
     (first | simp only [add_plain] at hx363_0 | skip)
     obtain ⟨hx4_0, hf4_0⟩ := Kd.R_celln 0 HO_0.out (x2_1 : Int) p4 q4
     replace p4 := eq_true p4
     replace q4 := eq_true q4
     have HP6 := Kd.R_putg HO_0.out (x2_1 : Int) (((rd x0_1 x2_1) + 91) % 256)
     go_wp2_with (first | ((with_reducible refine gate_store (t := 5) (p := 16) rfl ?_); refine store_event (t := 5) (p := 16) (v := ?vo_w7) (w1 := (wr.setCell ⟨go4, (x2_1 : Int).toNat, none⟩ (.int .u8 (((rd x0_1 x2_1) + 91) % 256)))) ?hg ?ho ?hn ?hr ?_; (case ho => rfl); (case hg => rfl); (case hn => rfl); (case hr => first | (go_simp; done) | (go_simp; rfl)); intro w7 hw; have hg : wr.grownBy w7 (some go4) := (by rw [hw]; exact HP6.2); have hp_ : Kd.R (Kd.int .u8) 5 w7 w0.heap.size (fun k_ => (P0_ k_ ∨ w.heap.size ≤ k_)) (.slice (some ⟨go4, 0, none⟩) x0_1.length co5) y364 := (by rw [hw, Ny364.out]; exact HP6.1); clear HP6; have n0_ := Aside0.mk (hp_); have n1_ := Aside0.mk ((by rw [hw]; exact below_set (HB.out) GB4.out : Below w0.heap.size w0 w7)); have n2_ := Aside0.mk (Kept.of_grown (S := (fun k_ => P0_ k_)) hg (by repeat (first | (with_reducible first | exact HK.out | apply Kept.alloc | apply Kept.drewN | apply Kept.drew) | exact HK.out)) (fun k_ e_ => (HO_0.out.1 k_ e_))); clear HO_0; clear HB; clear HK; have HO_0 := n0_; have HB := n1_; have HK := n2_; clear n0_ n1_ n2_; clear hg hw hp_))
     go_roundg k1
     case measure => have := HK1.out; omega
     case rel => exact ⟨(y364), (wrap64 (x2_1 + 1)), (by first | rfl | (simp; done) | (simp [*]; done)), H', ⟨by have := HK1.out; omega⟩, ⟨by first | with_reducible exact HO_0.out | exact sR HO_0.out⟩, ⟨by repeat (first | (with_reducible first | exact HK.out | apply Kept.alloc | apply Kept.drewN | apply Kept.drew) | exact HK.out)⟩, ⟨by first | with_reducible exact HB.out | exact sB HB.out⟩⟩
    ·rw [if_neg c3] at H
     exact absurd H (by simp)
   ·rw [if_neg c2] at H
    have c2b0 : decide (x2_1 < (x0_1.length : Int)) = false := decide_eq_false c2
    clear c2
    obtain rfl := Option.some.inj H
    obtain ⟨Ao8, co8, eo8⟩ := Kd.R_slice HO_0.out
    subst eo8
    go_wp2
    first | go_end0 | ((try simp only [Exit.inBlock, Exit.then]); refine bodyPost_ret (results_none rfl _ _ _) rfl ?_)
    exact ⟨by first | rfl | (simp [errW_none, errW_some] <;> rfl) | (simp [*, errW_none, errW_some] <;> rfl), by first | with_reducible exact HO_0.out | exact sR HO_0.out, by first | with_reducible exact HB.out | exact sB HB.out, by repeat (first | (with_reducible first | exact HK.out | apply Kept.alloc | apply Kept.drewN | apply Kept.drew) | exact HK.out)⟩

end Go.Proofs.Ytcomabcmjhlabaa.FA
