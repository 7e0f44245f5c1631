/- Functions of the program, each told as a plain Lean function, and that the program computes it: written by this session's own program. -/
import Derived.Test.YtcomabcmjhlabaaFAx0
import Derived.Test.YtcomabcmjhlabaaFAx2
import Derived.Test.YtcomabcmjhlabaaFAx4
import Derived.Test.YtcomabcmjhlabaaFAx7
namespace Go.Proofs.Ytcomabcmjhlabaa.FA
open Go.RowKit Go.Proofs.YtcomabcmjhlabaaW.PrintWords Go.Proofs.YtcomabcmjhlabaaW.PrintLast Go.Proofs.YtcomabcmjhlabaaW.PrintMore
attribute [local go_sem] max2_int min2_int max_two min_two max_three min_three max_four min_four   -- for this text's walks alone
set_option linter.unusedVariables false
set_option linter.unusedSimpArgs false

/-! ### wherrylaw20_FrameFields: function 5 -/
mutual
def wherrylaw20_FrameFields.j0 : Nat → Bool → Int → Int → Int → Int → List Int → Option (Bool)
 | 0, _, _, _, _, _, _ => none
 | k + 1, x13, x273000, x273001, x273002, x273003, x273004 => if x13 = true then (some true) else ((frame_Bytes.f k x273000 x273001 x273002 x273003 x273004).bind fun bt274 => (if bt274.2 = 0 then (wherrylaw20_FrameFields.j1 k bt274.1 ((bt274.1.length : Int) != (wrap64 (9 + (x273004.length : Int)))) x273000 x273001 x273002 x273003 x273004) else (wherrylaw20_FrameFields.j1 k bt274.1 true x273000 x273001 x273002 x273003 x273004)))
def wherrylaw20_FrameFields.j1 : Nat → List Int → Bool → Int → Int → Int → Int → List Int → Option (Bool)
 | 0, _, _, _, _, _, _, _ => none
 | k + 1, x3, x29, x273000, x273001, x273002, x273003, x273004 => if x29 = true then (some false) else (if 0 < (x3.length : Int) then (if (wrap64 (rd x3 0)) = x273000 then (if 1 < (x3.length : Int) then (if 2 < (x3.length : Int) then (if (Go.bits .or .i64 (wrap64 ((wrap64 (rd x3 1)) * 256)) (wrap64 (rd x3 2))) = x273001 then (if 3 < (x3.length : Int) then (if 4 < (x3.length : Int) then (if (Go.bits .or .i64 (wrap64 ((wrap64 (rd x3 3)) * 256)) (wrap64 (rd x3 4))) = x273002 then (if 5 < (x3.length : Int) then (if (wrap64 (rd x3 5)) = x273003 then (if 6 < (x3.length : Int) then (if (wrap64 (rd x3 6)) = (x273004.length : Int) then (if 7 ≤ (wrap64 (7 + (x273004.length : Int))) then (if (wrap64 (7 + (x273004.length : Int))) ≤ (x3.length : Int) then ((wherrykeep_Bytes.f k ((x3.take ((wrap64 (7 + (x273004.length : Int))) : Int).toNat).drop 7) x273004).bind fun t289 => (if t289 = true then ((wherrylaw20_wakes.f k).bind fun t290 => (some t290)) else (some false))) else (none)) else (none)) else (some false)) else (none)) else (some false)) else (none)) else (some false)) else (none)) else (none)) else (some false)) else (none)) else (none)) else (some false)) else (none))
end
def wherrylaw20_FrameFields.f (k : Nat) (a0_0 : Int) (a0_1 : Int) (a0_2 : Int) (a0_3 : Int) (l0_4 : List Int) : Option (Bool) := if (l0_4.length : Int) > 300 then (wherrylaw20_FrameFields.j0 k true a0_0 a0_1 a0_2 a0_3 l0_4) else ((wherryref18_Frame.f k a0_0 a0_1 a0_2 a0_3 l0_4).bind fun t273 => (wherrylaw20_FrameFields.j0 k (!t273) a0_0 a0_1 a0_2 a0_3 l0_4))
theorem wherrylaw20_FrameFields.mono_l : ∀ k, (∀ y0 y1 y2 y3 y4 y5, LeO (wherrylaw20_FrameFields.j0 k y0 y1 y2 y3 y4 y5) (wherrylaw20_FrameFields.j0 (k + 1) y0 y1 y2 y3 y4 y5)) ∧ (∀ y0 y1 y2 y3 y4 y5 y6, LeO (wherrylaw20_FrameFields.j1 k y0 y1 y2 y3 y4 y5 y6) (wherrylaw20_FrameFields.j1 (k + 1) y0 y1 y2 y3 y4 y5 y6))
 | 0 => ⟨fun _ _ _ _ _ _ r h => by simp [wherrylaw20_FrameFields.j0] at h, fun _ _ _ _ _ _ _ r h => by simp [wherrylaw20_FrameFields.j1] at h⟩
 | k + 1 => by
  obtain ⟨ih0, ih1⟩ := wherrylaw20_FrameFields.mono_l k
  refine ⟨?_, ?_⟩
  ·intro y0 y1 y2 y3 y4 y5
   unfold wherrylaw20_FrameFields.j0
   repeat' first
   | (with_reducible exact ih0 _ _ _ _ _ _)
   | (with_reducible exact ih1 _ _ _ _ _ _ _)
   | (with_reducible exact frame_Bytes.mono _ _ _ _ _ _)
   | (with_reducible exact wherrykeep_Bytes.mono _ _ _)
   | (with_reducible exact wherrylaw20_wakes.mono _)
   | (with_reducible exact wherryref18_Frame.mono _ _ _ _ _ _)
   | (with_reducible exact LeO.refl _)
   | (with_reducible exact LeO.none _)
   | (with_reducible refine LeO.ite ?_ ?_)
   | (with_reducible refine LeO.bind ?_ (fun _ => ?_))
   | exact ih0 _ _ _ _ _ _
   | exact ih1 _ _ _ _ _ _ _
   | exact frame_Bytes.mono _ _ _ _ _ _
   | exact wherrykeep_Bytes.mono _ _ _
   | exact wherrylaw20_wakes.mono _
   | exact wherryref18_Frame.mono _ _ _ _ _ _
   | exact LeO.none _
   | refine LeO.ite ?_ ?_
   | refine LeO.bind ?_ (fun _ => ?_)
  ·intro y0 y1 y2 y3 y4 y5 y6
   unfold wherrylaw20_FrameFields.j1
   repeat' first
   | (with_reducible exact ih0 _ _ _ _ _ _)
   | (with_reducible exact ih1 _ _ _ _ _ _ _)
   | (with_reducible exact frame_Bytes.mono _ _ _ _ _ _)
   | (with_reducible exact wherrykeep_Bytes.mono _ _ _)
   | (with_reducible exact wherrylaw20_wakes.mono _)
   | (with_reducible exact wherryref18_Frame.mono _ _ _ _ _ _)
   | (with_reducible exact LeO.refl _)
   | (with_reducible exact LeO.none _)
   | (with_reducible refine LeO.ite ?_ ?_)
   | (with_reducible refine LeO.bind ?_ (fun _ => ?_))
   | exact ih0 _ _ _ _ _ _
   | exact ih1 _ _ _ _ _ _ _
   | exact frame_Bytes.mono _ _ _ _ _ _
   | exact wherrykeep_Bytes.mono _ _ _
   | exact wherrylaw20_wakes.mono _
   | exact wherryref18_Frame.mono _ _ _ _ _ _
   | exact LeO.none _
   | refine LeO.ite ?_ ?_
   | refine LeO.bind ?_ (fun _ => ?_)
theorem wherrylaw20_FrameFields.mono : ∀ a0 a1 a2 a3 a4 k, LeO (wherrylaw20_FrameFields.f k a0 a1 a2 a3 a4) (wherrylaw20_FrameFields.f (k + 1) a0 a1 a2 a3 a4) := by
 intro a0 a1 a2 a3 a4 k
 obtain ⟨ih0, ih1⟩ := wherrylaw20_FrameFields.mono_l k
 unfold wherrylaw20_FrameFields.f
 repeat' first
   | (with_reducible exact ih0 _ _ _ _ _ _)
   | (with_reducible exact ih1 _ _ _ _ _ _ _)
   | (with_reducible exact frame_Bytes.mono _ _ _ _ _ _)
   | (with_reducible exact wherrykeep_Bytes.mono _ _ _)
   | (with_reducible exact wherrylaw20_wakes.mono _)
   | (with_reducible exact wherryref18_Frame.mono _ _ _ _ _ _)
   | (with_reducible exact LeO.refl _)
   | (with_reducible exact LeO.none _)
   | (with_reducible refine LeO.ite ?_ ?_)
   | (with_reducible refine LeO.bind ?_ (fun _ => ?_))
   | exact ih0 _ _ _ _ _ _
   | exact ih1 _ _ _ _ _ _ _
   | exact frame_Bytes.mono _ _ _ _ _ _
   | exact wherrykeep_Bytes.mono _ _ _
   | exact wherrylaw20_wakes.mono _
   | exact wherryref18_Frame.mono _ _ _ _ _ _
   | exact LeO.none _
   | refine LeO.ite ?_ ?_
   | refine LeO.bind ?_ (fun _ => ?_)
def wherrylaw20_FrameFields.T6 : Bool × List (List Nat × List Nat) := (true, [([], []), ([0], [0]), ([1], [1]), ([2], [2]), ([], []), ([4], [4]), ([3, 5], [3, 5]), ([6], [6]), ([7], [7]), ([8, 7], [7, 8]), ([9, 7], [7, 9]), ([10, 7], [7, 10]), ([11, 7], [7, 11]), ([7], [7]), ([13, 7], [7, 13]), ([14, 7], [7, 14]), ([15, 7], [7, 15]), ([12, 16, 7], [7, 12, 16]), ([7], [7]), ([18, 7], [7, 18]), ([17, 19, 7], [7, 17, 19]), ([7, 20], [7, 20]), ([21, 7], [21]), ([22], [22]), ([23, 22], [22, 23]), ([24, 22], [22, 24]), ([25, 22], [22, 25]), ([26, 22], [22, 26]), ([22], [22]), ([28, 22], [22, 28]), ([29, 22], [22, 29]), ([30, 22], [22, 30]), ([27, 31, 22], [22, 27, 31]), ([22], [22]), ([33, 22], [22, 33]), ([32, 34, 22], [22, 32, 34]), ([22, 35], [22, 35]), ([36, 22], [36]), ([37], [37]), ([38, 37], [37, 38]), ([39, 37], [37, 39]), ([40, 37], [37, 40]), ([37], [37]), ([42, 37], [37, 42]), ([41, 43, 37], [37, 41, 43]), ([37, 44], [37, 44]), ([45, 37], [45]), ([46], [46]), ([47, 46], [46, 47]), ([48, 46], [46, 48]), ([49, 46], [46, 49]), ([46], [46]), ([51, 46], [46, 51]), ([52, 46], [46, 52]), ([50, 53, 46], [46, 50, 53]), ([46, 54], [46, 54]), ([55, 46], [55]), ([56], [56]), ([56], [56]), ([58, 56], [56, 58]), ([59, 56], [56, 59]), ([60, 56], [56, 60]), ([57, 61, 56], [56, 57, 61]), ([56], [56]), ([63, 56], [56, 63]), ([62, 64, 56, 56], [56, 62, 64]), ([56, 65], [56, 65]), ([66, 65], [66]), ([67, 67], [67]), ([67, 68], [67, 68]), ([69, 68, 0, 1, 2, 3, 4, 5, 6, 7, 8, 9, 10, 11, 12, 13, 14, 15, 16, 17, 18, 19, 20, 21, 22, 23, 24, 25, 26, 27, 28, 29, 30, 31, 32, 33, 34, 35, 36, 37, 38, 39, 40, 41, 42, 43, 44, 45, 46, 47, 48, 49, 50, 51, 52, 53, 54, 55, 56, 57, 58, 59, 60, 61, 62, 63, 64, 65, 66, 67, 68, 69], [69])])
def wherrylaw20_FrameFields.B6 : List Nat := [0, 1, 3, 7, 0, 16, 63, 127, 255, 511, 1023, 2047, 4095, 255, 8447, 24831, 57599, 131071, 255, 262399, 1048575, 2097151, 4194303, 8388607, 16777215, 33554431, 67108863, 134217727, 8388607, 276824063, 813694975, 1887436799, 4294967295, 8388607, 8598323199, 34359738367, 68719476735, 137438953471, 274877906943, 549755813887, 1099511627775, 2199023255551, 274877906943, 4672924418047, 17592186044415, 35184372088831, 70368744177663, 140737488355327, 281474976710655, 562949953421311, 1125899906842623, 140737488355327, 2392537302040575, 6896136929411071, 18014398509481983, 36028797018963967, 72057594037927935, 144115188075855871, 144115188075855871, 432345564227567615, 1008806316530991103, 2161727821137838079, 4611686018427387903, 144115188075855871, 9367487224930631679, 36893488147419103231, 73786976294838206463, 147573952589676412927, 295147905179352825855, 590295810358705651711, 1180591620717411303423]
theorem wherrylaw20_FrameFields.tab6 : rtab .any (opsOf Try.f5 6) = wherrylaw20_FrameFields.T6 := by kernel_rfl
theorem wherrylaw20_FrameFields.bits6 : waitsOk wherrylaw20_FrameFields.T6.2 wherrylaw20_FrameFields.B6 = true := by kernel_rfl
set_option maxHeartbeats 8000000 in
set_option maxRecDepth 100000 in
theorem wherrylaw20_FrameFields.calls (k : Nat) (a0_0 : Int) (a0_1 : Int) (a0_2 : Int) (a0_3 : Int) (A0_4 : Option Addr) (c0_4 : Nat) (l0_4 : List Int) (r : Bool) (w : World) (hr0_4 : Kd.C (Kd.int .u8) w A0_4 l0_4.length l0_4) (hc0_4 : l0_4.length ≤ c0_4) (h : wherrylaw20_FrameFields.f k a0_0 a0_1 a0_2 a0_3 l0_4 = some r) :
  Calls Try.prog 5 #[.agg #[.int .i64 a0_0, .int .i64 a0_1, .int .i64 a0_2, .int .i64 a0_3, .slice A0_4 l0_4.length c0_4]] w fun e w' => e = .returned (.bool r) ∧ Below w.heap.size w w' := by
 have hu24 := Try.underlying24
 have HR0_4 := Aside0.mk hr0_4
 have HC0_4 := Aside0.mk hc0_4
 clear hr0_4 hc0_4
 have HB := Aside0.mk (Below.refl w.heap.size w)
 have H : (if (l0_4.length : Int) > 300 then (wherrylaw20_FrameFields.j0 k true a0_0 a0_1 a0_2 a0_3 l0_4) else ((wherryref18_Frame.f k a0_0 a0_1 a0_2 a0_3 l0_4).bind fun t273 => (wherrylaw20_FrameFields.j0 k (!t273) a0_0 a0_1 a0_2 a0_3 l0_4))) = some r := h
 clear h
 have HC2 := Aside0.mk H
 clear H
 go_enter Try.func5, Try.ntmps5
 go_upto_region 1 with (first | ((with_reducible refine gate_dst (N := 1) rfl ?_); (try (refine gate_guard (by rfl) ?_; dsimp only)); refine box_event ?hg (N := 1) ?hd (cs := #[.int .i64 a0_0, .int .i64 a0_1, .int .i64 a0_2, .int .i64 a0_3, .slice A0_4 l0_4.length c0_4]) (t := 24) ?hr ?_; (case hd => rfl); (case hg => rfl); (case hr => first | (go_simp; done) | (go_simp; rfl)); intro gb272 hg w3 hbox hb; have n0_ := Aside0.mk (below_step (by first | with_reducible exact HB.out | exact sB HB.out) hb); have n1_ := Aside0.mk (hbox); have n2_ := Aside0.mk ((by rw [hg]; exact (below_size (by first | with_reducible exact HB.out | exact sB HB.out)) : w.heap.size ≤ gb272)); have n3_ := Aside0.mk ((by rw [hg]; exact (below_size (by first | with_reducible exact HB.out | exact sB HB.out)) : w.heap.size ≤ gb272)); clear HB; have HB := n0_; have BK272 := n1_; have GW272 := n2_; have GE272 := n3_; clear n0_ n1_ n2_ n3_; clear hb hbox hg))
 (try simp only [Act.put, List.setIfInBounds_toArray, List.set_cons_zero, List.set_cons_succ])
 go_cut [13] (fun v13 wc => ∃ (kq : Nat) (x13_1 : Bool), v13 = .bool x13_1 ∧ Aside0 (wherrylaw20_FrameFields.j0 kq x13_1 a0_0 a0_1 a0_2 a0_3 l0_4 = some r) ∧ Aside0 (kq ≤ k) ∧ Aside0 (wc.heap[gb272]? = some (.cells #[.int .i64 a0_0, .int .i64 a0_1, .int .i64 a0_2, .int .i64 a0_3, (.slice A0_4 l0_4.length c0_4)] 24 (0, 0))) ∧ Aside0 (Below w.heap.size w wc))
 case first =>
  have H := HC2.out
  clear HC2
  by_cases c4 : (l0_4.length : Int) > 300
  ·rw [if_pos c4] at H
   have c4b0 : decide (300 < (l0_4.length : Int)) = true := decide_eq_true c4
   have c4b1 : decide (300 < l0_4.length) = true := decide_eq_true (by omega)
   clear c4
   (first | rw [c4b0] | (simp only [i64_w, i32_w]; rw [c4b0]) | skip)
   have H' := Aside0.mk H
   clear H
   have hcz5_0 : w3.cell? ⟨gb272, 0, none⟩ = some (.int .i64 a0_0) := (blk_cell BK272.out 0).trans rfl
   have hcz5_1 : w3.cell? ⟨gb272, 1, none⟩ = some (.int .i64 a0_1) := (blk_cell BK272.out 1).trans rfl
   have hcz5_2 : w3.cell? ⟨gb272, 2, none⟩ = some (.int .i64 a0_2) := (blk_cell BK272.out 2).trans rfl
   have hcz5_3 : w3.cell? ⟨gb272, 3, none⟩ = some (.int .i64 a0_3) := (blk_cell BK272.out 3).trans rfl
   have hcz5_4 : w3.cell? ⟨gb272, 4, none⟩ = some (.slice A0_4 l0_4.length c0_4) := (blk_cell BK272.out 4).trans rfl
   have hfz5_0 := blk_frozen BK272.out 0
   have hfz5_1 := blk_frozen BK272.out 1
   have hfz5_2 := blk_frozen BK272.out 2
   have hfz5_3 := blk_frozen BK272.out 3
   have hfz5_4 := blk_frozen BK272.out 4
   go_wp2
   go_meet
   case rel => exact ⟨_, (true), (by first | rfl | (simp; done) | (simp [*]; done)), H', ⟨by first | omega | exact Nat.le_refl _⟩, ⟨by (with_reducible repeat (first | refine k2 ?_ _ | refine k3 ?_ | refine k1 ?_ _)); exact BK272.out⟩, ⟨by repeat (first | (with_reducible first | exact HB.out | apply b1 | apply b2 | apply b3 | refine below_set ?_ GE272.out) | exact HB.out)⟩⟩
  ·rw [if_neg c4] at H
   have c4b0 : decide (300 < (l0_4.length : Int)) = false := decide_eq_false c4
   have c4b1 : decide (300 < l0_4.length) = false := decide_eq_false (by omega)
   clear c4
   (first | rw [c4b0] | (simp only [i64_w, i32_w]; rw [c4b0]) | skip)
   replace H := Option.bind_eq_some_iff.mp H
   obtain ⟨t273, A60, H⟩ := H
   replace H : (wherrylaw20_FrameFields.j0 k (!t273) a0_0 a0_1 a0_2 a0_3 l0_4) = some r := H
   have A6 := Aside0.mk A60
   clear A60
   have H' := Aside0.mk H
   clear H
   have hcz7_0 : w3.cell? ⟨gb272, 0, none⟩ = some (.int .i64 a0_0) := (blk_cell BK272.out 0).trans rfl
   have hcz7_1 : w3.cell? ⟨gb272, 1, none⟩ = some (.int .i64 a0_1) := (blk_cell BK272.out 1).trans rfl
   have hcz7_2 : w3.cell? ⟨gb272, 2, none⟩ = some (.int .i64 a0_2) := (blk_cell BK272.out 2).trans rfl
   have hcz7_3 : w3.cell? ⟨gb272, 3, none⟩ = some (.int .i64 a0_3) := (blk_cell BK272.out 3).trans rfl
   have hcz7_4 : w3.cell? ⟨gb272, 4, none⟩ = some (.slice A0_4 l0_4.length c0_4) := (blk_cell BK272.out 4).trans rfl
   have hfz7_0 := blk_frozen BK272.out 0
   have hfz7_1 := blk_frozen BK272.out 1
   have hfz7_2 := blk_frozen BK272.out 2
   have hfz7_3 := blk_frozen BK272.out 3
   have hfz7_4 := blk_frozen BK272.out 4
   go_wp2_with (first | (go_at_call 16; (with_reducible refine (wherryref18_Frame.calls k a0_0 a0_1 a0_2 a0_3 _ _ l0_4 t273 _ ?side1 ?side2 A6.out).mono ?_); (case side1 => first | with_reducible exact (Kd.C_below HR0_4.out HB.out) | exact sC ((Kd.C_below HR0_4.out HB.out))); (case side2 => exact HC0_4.out); rintro e w8 ⟨rfl, hb⟩; have n0_ := Aside0.mk (bK BK272.out hb); have n1_ := Aside0.mk (below_step (by repeat (first | (with_reducible first | exact HB.out | apply b1 | apply b2 | apply b3 | refine below_set ?_ GE272.out) | exact HB.out)) hb); clear BK272; clear HB; have BK272 := n0_; have HB := n1_; clear n0_ n1_; (try clear hb); (try clear hb2); (try clear hk); (try clear hi)))
   go_meet
   case rel => exact ⟨_, (!t273), (by first | rfl | (simp; done) | (simp [*]; done)), H', ⟨by first | omega | exact Nat.le_refl _⟩, ⟨by (with_reducible repeat (first | refine k2 ?_ _ | refine k3 ?_ | refine k1 ?_ _)); exact BK272.out⟩, ⟨by repeat (first | (with_reducible first | exact HB.out | apply b1 | apply b2 | apply b3 | refine below_set ?_ GE272.out) | exact HB.out)⟩⟩
 case rest =>
  clear HC2
  try clear p2
  try clear c4
  try clear c4b0
  try clear c4b1
  try clear c5
  try clear hcz5_0
  try clear hcz5_1
  try clear hcz5_2
  try clear hcz5_3
  try clear hcz5_4
  try clear hcz7_0
  try clear hcz7_1
  try clear hcz7_2
  try clear hcz7_3
  try clear hcz7_4
  try clear hfz5_0
  try clear hfz5_1
  try clear hfz5_2
  try clear hfz5_3
  try clear hfz5_4
  try clear hfz7_0
  try clear hfz7_1
  try clear hfz7_2
  try clear hfz7_3
  try clear hfz7_4
  obtain ⟨kq, x13_1, rfl, HA, HJ1, BK272, HB⟩ := hcut
  cases kq with
  | zero => exact absurd HA.out (by simp [wherrylaw20_FrameFields.j0])
  | succ kj1 =>
   have H := HA.out
   clear HA
   simp only [wherrylaw20_FrameFields.j0] at H
   by_cases c9 : x13_1 = true
   ·subst c9
    have H1 : (some true) = some r := by rw [if_pos rfl] at H; exact H
    clear H
    have H := H1
    clear H1
    obtain rfl := Option.some.inj H
    go_wp2
    go_ret
    exact ⟨by first | rfl | (simp [errW_none, errW_some] <;> rfl) | (simp [*, errW_none, errW_some] <;> rfl), by repeat (first | (with_reducible first | exact HB.out | apply b1 | apply b2 | apply b3 | refine below_set ?_ GE272.out) | exact HB.out)⟩
   ·replace c9 := Bool.eq_false_iff.mpr c9
    subst c9
    have H1 : ((frame_Bytes.f kj1 a0_0 a0_1 a0_2 a0_3 l0_4).bind fun bt274 => (if bt274.2 = 0 then (wherrylaw20_FrameFields.j1 kj1 bt274.1 ((bt274.1.length : Int) != (wrap64 (9 + (l0_4.length : Int)))) a0_0 a0_1 a0_2 a0_3 l0_4) else (wherrylaw20_FrameFields.j1 kj1 bt274.1 true a0_0 a0_1 a0_2 a0_3 l0_4))) = some r := by rw [if_neg (show ¬ (false = true) by decide)] at H; exact H
    clear H
    have H := H1
    clear H1
    replace H := Option.bind_eq_some_iff.mp H
    obtain ⟨⟨t274, t277⟩, A100, H⟩ := H
    replace H : (if t277 = 0 then (wherrylaw20_FrameFields.j1 kj1 t274 ((t274.length : Int) != (wrap64 (9 + (l0_4.length : Int)))) a0_0 a0_1 a0_2 a0_3 l0_4) else (wherrylaw20_FrameFields.j1 kj1 t274 true a0_0 a0_1 a0_2 a0_3 l0_4)) = some r := H
    have A10 := Aside0.mk A100
    clear A100
    have HC11 := Aside0.mk H
    clear H
    have hcz12_0 : wc.cell? ⟨gb272, 0, none⟩ = some (.int .i64 a0_0) := (blk_cell BK272.out 0).trans rfl
    have hcz12_1 : wc.cell? ⟨gb272, 1, none⟩ = some (.int .i64 a0_1) := (blk_cell BK272.out 1).trans rfl
    have hcz12_2 : wc.cell? ⟨gb272, 2, none⟩ = some (.int .i64 a0_2) := (blk_cell BK272.out 2).trans rfl
    have hcz12_3 : wc.cell? ⟨gb272, 3, none⟩ = some (.int .i64 a0_3) := (blk_cell BK272.out 3).trans rfl
    have hcz12_4 : wc.cell? ⟨gb272, 4, none⟩ = some (.slice A0_4 l0_4.length c0_4) := (blk_cell BK272.out 4).trans rfl
    have hfz12_0 := blk_frozen BK272.out 0
    have hfz12_1 := blk_frozen BK272.out 1
    have hfz12_2 := blk_frozen BK272.out 2
    have hfz12_3 := blk_frozen BK272.out 3
    have hfz12_4 := blk_frozen BK272.out 4
    go_upto_region 4 with (first | ((with_reducible refine gate_callee (f := 10) rfl ?_); refine goesL_ (some 16) rfl rfl Try.func10 (by kernel_rfl) rfl #[.agg #[.int .i64 a0_0, .int .i64 a0_1, .int .i64 a0_2, .int .i64 a0_3, .slice A0_4 l0_4.length c0_4]] rfl (by (try simp only [List.map_toArray, List.map_cons, List.map_nil]); first | done | rfl | (simp only [List.length_drop, List.length_take]; rfl) | (go_simp; done) | (go_simp; rfl)) ?_; (with_reducible refine (frame_Bytes.calls kj1 a0_0 a0_1 a0_2 a0_3 _ _ l0_4 t274 t277 _ ?side1 ?side2 A10.out).mono ?_); (case side1 => first | with_reducible exact (Kd.C_below HR0_4.out HB.out) | exact sC ((Kd.C_below HR0_4.out HB.out))); (case side2 => exact HC0_4.out); rintro e w13 ⟨v275, rfl, ho0, hb⟩; refine ⟨_, rfl, ?_⟩; have n0_ := Aside0.mk (Kd.R_lower ho0 (below_size (by repeat (first | (with_reducible first | exact HB.out | apply b1 | apply b2 | apply b3 | refine below_set ?_ GE272.out) | exact HB.out)))); have n1_ := Aside0.mk (bK BK272.out hb); have n2_ := Aside0.mk (below_step (by repeat (first | (with_reducible first | exact HB.out | apply b1 | apply b2 | apply b3 | refine below_set ?_ GE272.out) | exact HB.out)) hb); clear BK272; clear HB; have HO276 := n0_; have BK272 := n1_; have HB := n2_; clear n0_ n1_ n2_; (try clear hb); (try clear hb2); (try clear hk); (try clear hi); (try clear ho0)))
    (try simp only [Act.put, List.setIfInBounds_toArray, List.set_cons_zero, List.set_cons_succ])
    go_cut [29] (fun v29 wc => ∃ (kq : Nat) (x29_10 : Bool), v29 = .bool x29_10 ∧ Aside0 (wherrylaw20_FrameFields.j1 kq t274 x29_10 a0_0 a0_1 a0_2 a0_3 l0_4 = some r) ∧ Aside0 (kq ≤ kj1) ∧ Aside0 (Kd.R (Kd.int .u8) 5 wc w.heap.size (fun _ => True) v275 t274) ∧ Aside0 (wc.heap[gb272]? = some (.cells #[.int .i64 a0_0, .int .i64 a0_1, .int .i64 a0_2, .int .i64 a0_3, (.slice A0_4 l0_4.length c0_4)] 24 (0, 0))) ∧ Aside0 (Below w.heap.size w wc))
    case first =>
     have H := HC11.out
     clear HC11
     by_cases c14 : t277 = 0
     ·rw [if_pos c14] at H
      have c14b0 : (t277 == 0) = true := beq_iff_eq.mpr c14
      have c14b1 : (t277 != 0) = false := bne_eq_false_iff_eq.mpr c14
      clear c14
      (first | rw [c14b0] | (simp only [i64_w, i32_w]; rw [c14b0]) | skip)
      have H' := Aside0.mk H
      clear H
      obtain ⟨Ao15, co15, eo15⟩ := Kd.R_slice HO276.out
      subst eo15
      have hcz16_0 : w13.cell? ⟨gb272, 0, none⟩ = some (.int .i64 a0_0) := (blk_cell BK272.out 0).trans rfl
      have hcz16_1 : w13.cell? ⟨gb272, 1, none⟩ = some (.int .i64 a0_1) := (blk_cell BK272.out 1).trans rfl
      have hcz16_2 : w13.cell? ⟨gb272, 2, none⟩ = some (.int .i64 a0_2) := (blk_cell BK272.out 2).trans rfl
      have hcz16_3 : w13.cell? ⟨gb272, 3, none⟩ = some (.int .i64 a0_3) := (blk_cell BK272.out 3).trans rfl
      have hcz16_4 : w13.cell? ⟨gb272, 4, none⟩ = some (.slice A0_4 l0_4.length c0_4) := (blk_cell BK272.out 4).trans rfl
      have hfz16_0 := blk_frozen BK272.out 0
      have hfz16_1 := blk_frozen BK272.out 1
      have hfz16_2 := blk_frozen BK272.out 2
      have hfz16_3 := blk_frozen BK272.out 3
      have hfz16_4 := blk_frozen BK272.out 4
      go_wp2
      go_meet
      case rel => exact ⟨_, (((t274.length : Int) != (wrap64 (9 + (l0_4.length : Int))))), (by first | rfl | (simp; done) | (simp [*]; done)), H', ⟨by have := HJ1.out; first | omega | exact Nat.le_refl _⟩, ⟨by first | with_reducible exact HO276.out | exact sR HO276.out⟩, ⟨by (with_reducible repeat (first | refine k2 ?_ _ | refine k3 ?_ | refine k1 ?_ _)); exact BK272.out⟩, ⟨by repeat (first | (with_reducible first | exact HB.out | apply b1 | apply b2 | apply b3 | refine below_set ?_ GE272.out) | exact HB.out)⟩⟩
     ·rw [if_neg c14] at H
      have c14b0 : (t277 == 0) = false := beq_eq_false_iff_ne.mpr c14
      have c14b1 : (t277 != 0) = true := bne_iff_ne.mpr c14
      (first | rw [c14b0] | (simp only [i64_w, i32_w]; rw [c14b0]) | skip)
      have H' := Aside0.mk H
      clear H
      go_wp2
      go_meet
      case rel => exact ⟨_, (true), (by first | rfl | (simp; done) | (simp [*]; done)), H', ⟨by have := HJ1.out; first | omega | exact Nat.le_refl _⟩, ⟨by first | with_reducible exact HO276.out | exact sR HO276.out⟩, ⟨by (with_reducible repeat (first | refine k2 ?_ _ | refine k3 ?_ | refine k1 ?_ _)); exact BK272.out⟩, ⟨by repeat (first | (with_reducible first | exact HB.out | apply b1 | apply b2 | apply b3 | refine below_set ?_ GE272.out) | exact HB.out)⟩⟩
    case rest =>
     clear HC11
     try clear c1
     try clear p2
     try clear c4
     try clear c4b0
     try clear c4b1
     try clear c5
     try clear p6
     try clear c9
     try clear c10
     try clear c14
     try clear c14b0
     try clear c14b1
     try clear hcz12_0
     try clear hcz12_1
     try clear hcz12_2
     try clear hcz12_3
     try clear hcz12_4
     try clear hcz16_0
     try clear hcz16_1
     try clear hcz16_2
     try clear hcz16_3
     try clear hcz16_4
     try clear hcz5_0
     try clear hcz5_1
     try clear hcz5_2
     try clear hcz5_3
     try clear hcz5_4
     try clear hcz7_0
     try clear hcz7_1
     try clear hcz7_2
     try clear hcz7_3
     try clear hcz7_4
     try clear hfz12_0
     try clear hfz12_1
     try clear hfz12_2
     try clear hfz12_3
     try clear hfz12_4
     try clear hfz16_0
     try clear hfz16_1
     try clear hfz16_2
     try clear hfz16_3
     try clear hfz16_4
     try clear hfz5_0
     try clear hfz5_1
     try clear hfz5_2
     try clear hfz5_3
     try clear hfz5_4
     try clear hfz7_0
     try clear hfz7_1
     try clear hfz7_2
     try clear hfz7_3
     try clear hfz7_4
     try clear p2
     obtain ⟨kq, x29_10, rfl, HA, HJ10, HO_3, BK272, HB⟩ := hcut
     cases kq with
     | zero => exact absurd HA.out (by simp [wherrylaw20_FrameFields.j1])
     | succ kj10 =>
      have H := HA.out
      clear HA
      simp only [wherrylaw20_FrameFields.j1] at H
      by_cases c17 : x29_10 = true
      ·subst c17
       have H1 : (some false) = some r := by rw [if_pos rfl] at H; exact H
       clear H
       have H := H1
       clear H1
       obtain rfl := Option.some.inj H
       go_wp2
       go_ret
       exact ⟨by first | rfl | (simp [errW_none, errW_some] <;> rfl) | (simp [*, errW_none, errW_some] <;> rfl), by repeat (first | (with_reducible first | exact HB.out | apply b1 | apply b2 | apply b3 | refine below_set ?_ GE272.out) | exact HB.out)⟩
      ·replace c17 := Bool.eq_false_iff.mpr c17
       subst c17
       have H1 : (if 0 < (t274.length : Int) then (if (wrap64 (rd t274 0)) = a0_0 then (if 1 < (t274.length : Int) then (if 2 < (t274.length : Int) then (if (Go.bits .or .i64 (wrap64 ((wrap64 (rd t274 1)) * 256)) (wrap64 (rd t274 2))) = a0_1 then (if 3 < (t274.length : Int) then (if 4 < (t274.length : Int) then (if (Go.bits .or .i64 (wrap64 ((wrap64 (rd t274 3)) * 256)) (wrap64 (rd t274 4))) = a0_2 then (if 5 < (t274.length : Int) then (if (wrap64 (rd t274 5)) = a0_3 then (if 6 < (t274.length : Int) then (if (wrap64 (rd t274 6)) = (l0_4.length : Int) then (if 7 ≤ (wrap64 (7 + (l0_4.length : Int))) then (if (wrap64 (7 + (l0_4.length : Int))) ≤ (t274.length : Int) then ((wherrykeep_Bytes.f kj10 ((t274.take ((wrap64 (7 + (l0_4.length : Int))) : Int).toNat).drop 7) l0_4).bind fun t289 => (if t289 = true then ((wherrylaw20_wakes.f kj10).bind fun t290 => (some t290)) else (some false))) else (none)) else (none)) else (some false)) else (none)) else (some false)) else (none)) else (some false)) else (none)) else (none)) else (some false)) else (none)) else (none)) else (some false)) else (none)) = some r := by rw [if_neg (show ¬ (false = true) by decide)] at H; exact H
       clear H
       have H := H1
       clear H1
       by_cases c18 : 0 < (t274.length : Int)
       ·rw [if_pos c18] at H
        have c18b0 : decide (0 < (t274.length : Int)) = true := decide_eq_true c18
        have c18b1 : decide (0 < t274.length) = true := decide_eq_true (by omega)
        clear c18
        by_cases c19 : (wrap64 (rd t274 0)) = a0_0
        ·rw [if_pos c19] at H
         have c19b0 : ((wrap64 (rd t274 0)) == a0_0) = true := beq_iff_eq.mpr c19
         have c19b1 : ((wrap64 (rd t274 0)) != a0_0) = false := bne_eq_false_iff_eq.mpr c19
         clear c19
         by_cases c20 : 1 < (t274.length : Int)
         ·rw [if_pos c20] at H
          have c20b0 : decide (1 < (t274.length : Int)) = true := decide_eq_true c20
          have c20b1 : decide (1 < t274.length) = true := decide_eq_true (by omega)
          clear c20
          by_cases c21 : 2 < (t274.length : Int)
          ·rw [if_pos c21] at H
           have c21b0 : decide (2 < (t274.length : Int)) = true := decide_eq_true c21
           have c21b1 : decide (2 < t274.length) = true := decide_eq_true (by omega)
           clear c21
           by_cases c22 : (Go.bits .or .i64 (wrap64 ((wrap64 (rd t274 1)) * 256)) (wrap64 (rd t274 2))) = a0_1
           ·rw [if_pos c22] at H
            have c22b0 : ((Go.bits .or .i64 (wrap64 ((wrap64 (rd t274 1)) * 256)) (wrap64 (rd t274 2))) == a0_1) = true := beq_iff_eq.mpr c22
            have c22b1 : ((Go.bits .or .i64 (wrap64 ((wrap64 (rd t274 1)) * 256)) (wrap64 (rd t274 2))) != a0_1) = false := bne_eq_false_iff_eq.mpr c22
            clear c22
            by_cases c23 : 3 < (t274.length : Int)
            ·rw [if_pos c23] at H
             have c23b0 : decide (3 < (t274.length : Int)) = true := decide_eq_true c23
             have c23b1 : decide (3 < t274.length) = true := decide_eq_true (by omega)
             clear c23
             by_cases c24 : 4 < (t274.length : Int)
             ·rw [if_pos c24] at H
              have c24b0 : decide (4 < (t274.length : Int)) = true := decide_eq_true c24
              have c24b1 : decide (4 < t274.length) = true := decide_eq_true (by omega)
              clear c24
              by_cases c25 : (Go.bits .or .i64 (wrap64 ((wrap64 (rd t274 3)) * 256)) (wrap64 (rd t274 4))) = a0_2
              ·rw [if_pos c25] at H
               have c25b0 : ((Go.bits .or .i64 (wrap64 ((wrap64 (rd t274 3)) * 256)) (wrap64 (rd t274 4))) == a0_2) = true := beq_iff_eq.mpr c25
               have c25b1 : ((Go.bits .or .i64 (wrap64 ((wrap64 (rd t274 3)) * 256)) (wrap64 (rd t274 4))) != a0_2) = false := bne_eq_false_iff_eq.mpr c25
               clear c25
               by_cases c26 : 5 < (t274.length : Int)
               ·rw [if_pos c26] at H
                have c26b0 : decide (5 < (t274.length : Int)) = true := decide_eq_true c26
                have c26b1 : decide (5 < t274.length) = true := decide_eq_true (by omega)
                clear c26
                by_cases c27 : (wrap64 (rd t274 5)) = a0_3
                ·rw [if_pos c27] at H
                 have c27b0 : ((wrap64 (rd t274 5)) == a0_3) = true := beq_iff_eq.mpr c27
                 have c27b1 : ((wrap64 (rd t274 5)) != a0_3) = false := bne_eq_false_iff_eq.mpr c27
                 clear c27
                 by_cases c28 : 6 < (t274.length : Int)
                 ·rw [if_pos c28] at H
                  have c28b0 : decide (6 < (t274.length : Int)) = true := decide_eq_true c28
                  have c28b1 : decide (6 < t274.length) = true := decide_eq_true (by omega)
                  clear c28
                  by_cases c29 : (wrap64 (rd t274 6)) = (l0_4.length : Int)
                  ·rw [if_pos c29] at H
                   have c29b0 : ((wrap64 (rd t274 6)) == (l0_4.length : Int)) = true := beq_iff_eq.mpr c29
                   have c29b1 : ((wrap64 (rd t274 6)) != (l0_4.length : Int)) = false := bne_eq_false_iff_eq.mpr c29
                   clear c29
                   by_cases c30 : 7 ≤ (wrap64 (7 + (l0_4.length : Int)))
                   ·rw [if_pos c30] at H
                    have c30b0 := eq_true c30
                    have c30b1 : decide (7 ≤ (wrap64 (7 + (l0_4.length : Int)))) = true := decide_eq_true c30
                    by_cases c31 : (wrap64 (7 + (l0_4.length : Int))) ≤ (t274.length : Int)
                    ·rw [if_pos c31] at H
                     have c31b0 := eq_true c31
                     have c31b1 : decide ((wrap64 (7 + (l0_4.length : Int))) ≤ (t274.length : Int)) = true := decide_eq_true c31
                     obtain ⟨y285, hy285⟩ : ∃ y_ : List Int, y_ = ((t274.take ((wrap64 (7 + (l0_4.length : Int))) : Int).toNat).drop 7) := ⟨_, rfl⟩
                     replace H : ((wherrykeep_Bytes.f kj10 y285 l0_4).bind fun t289 => (if t289 = true then ((wherrylaw20_wakes.f kj10).bind fun t290 => (some t290)) else (some false))) = some r := by first | (rw [hy285]; with_reducible exact H) | (have H2_ := (Option.bind_some _ _).symm.trans H; rw [hy285]; with_reducible exact H2_) | (have H2_ := (Option.bind_some _ _).symm.trans H; with_reducible exact H2_) | with_reducible exact H | (rw [hy285]; exact H) | exact H
                     have Ny285 := Aside0.mk hy285
                     clear hy285
                     replace H := Option.bind_eq_some_iff.mp H
                     obtain ⟨t289, A320, H⟩ := H
                     replace H : (if t289 = true then ((wherrylaw20_wakes.f kj10).bind fun t290 => (some t290)) else (some false)) = some r := H
                     have A32 := Aside0.mk A320
                     clear A320
                     by_cases c33 : t289 = true
                     ·subst c33
                      have H1 : ((wherrylaw20_wakes.f kj10).bind fun t290 => (some t290)) = some r := by rw [if_pos rfl] at H; exact H
                      clear H
                      have H := H1
                      clear H1
                      replace H := Option.bind_eq_some_iff.mp H
                      obtain ⟨t290, A340, H⟩ := H
                      replace H : (some t290) = some r := H
                      have A34 := Aside0.mk A340
                      clear A340
                      obtain rfl := Option.some.inj H
                      try go_wp2
                      have n0_ := Aside0.mk (Kd.R_drew HO_3.out)
                      have n1_ := Aside0.mk (blk_drew BK272.out)
                      have n2_ := Aside0.mk (below_drew1 HB.out)
                      clear HO_3
                      clear BK272
                      clear HB
                      have HO_3 := n0_
                      have BK272 := n1_
                      have HB := n2_
                      clear n0_ n1_ n2_
                      obtain ⟨Ao36, co36, eo36⟩ := Kd.R_slice HO_3.out
                      (first | subst eo36 | (injection eo36 with f1_ f2_ f3_; have f4_ := f1_.symm; have f5_ := f3_.symm; clear f1_ f2_ f3_; subst f4_; subst f5_))
                      have p278 : 0 ≤ (0 : Int) := (by omega)
                      have q278 : 0 < (t274.length : Int) := of_decide_eq_true (by first | (with_reducible assumption) | assumption)
                      obtain ⟨ad278, e278, hx278_0⟩ := Kd.at_int (Kd.R_reads' HO_3.out).2.2 0 p278 q278
                      cases e278
                      have qi278 : (0 < t274.length) = True := eq_true (by omega)
                      (try rw [show ((0 : Int)).toNat = 0 from rfl] at hx278_0)
                      (try rw [Addr.add_zero'] at hx278_0)
                      replace p278 := eq_true p278
                      replace q278 := eq_true q278
                      have p279 : 0 ≤ (1 : Int) := (by omega)
                      have q279 : 1 < (t274.length : Int) := of_decide_eq_true (by first | (with_reducible assumption) | assumption)
                      obtain ⟨ad279, e279, hx279_0⟩ := Kd.at_int (Kd.R_reads' HO_3.out).2.2 1 p279 q279
                      obtain rfl : ad278 = ad279 := (by injection e279)
                      (try simp only [show (1 : Int).toNat = 1 from rfl, Nat.reduceMul, Nat.reduceEqDiff, Go.Addr.add, ↓reduceIte] at hx279_0)
                      have qi279 : (1 < t274.length) = True := eq_true (by omega)
                      (try rw [show ((1 : Int)).toNat = 1 from rfl] at hx279_0)
                      replace p279 := eq_true p279
                      replace q279 := eq_true q279
                      have p280 : 0 ≤ (2 : Int) := (by omega)
                      have q280 : 2 < (t274.length : Int) := of_decide_eq_true (by first | (with_reducible assumption) | assumption)
                      obtain ⟨ad280, e280, hx280_0⟩ := Kd.at_int (Kd.R_reads' HO_3.out).2.2 2 p280 q280
                      obtain rfl : ad278 = ad280 := (by injection e280)
                      (try simp only [show (2 : Int).toNat = 2 from rfl, Nat.reduceMul, Nat.reduceEqDiff, Go.Addr.add, ↓reduceIte] at hx280_0)
                      have qi280 : (2 < t274.length) = True := eq_true (by omega)
                      (try rw [show ((2 : Int)).toNat = 2 from rfl] at hx280_0)
                      replace p280 := eq_true p280
                      replace q280 := eq_true q280
                      have p281 : 0 ≤ (3 : Int) := (by omega)
                      have q281 : 3 < (t274.length : Int) := of_decide_eq_true (by first | (with_reducible assumption) | assumption)
                      obtain ⟨ad281, e281, hx281_0⟩ := Kd.at_int (Kd.R_reads' HO_3.out).2.2 3 p281 q281
                      obtain rfl : ad278 = ad281 := (by injection e281)
                      (try simp only [show (3 : Int).toNat = 3 from rfl, Nat.reduceMul, Nat.reduceEqDiff, Go.Addr.add, ↓reduceIte] at hx281_0)
                      have qi281 : (3 < t274.length) = True := eq_true (by omega)
                      (try rw [show ((3 : Int)).toNat = 3 from rfl] at hx281_0)
                      replace p281 := eq_true p281
                      replace q281 := eq_true q281
                      have p282 : 0 ≤ (4 : Int) := (by omega)
                      have q282 : 4 < (t274.length : Int) := of_decide_eq_true (by first | (with_reducible assumption) | assumption)
                      obtain ⟨ad282, e282, hx282_0⟩ := Kd.at_int (Kd.R_reads' HO_3.out).2.2 4 p282 q282
                      obtain rfl : ad278 = ad282 := (by injection e282)
                      (try simp only [show (4 : Int).toNat = 4 from rfl, Nat.reduceMul, Nat.reduceEqDiff, Go.Addr.add, ↓reduceIte] at hx282_0)
                      have qi282 : (4 < t274.length) = True := eq_true (by omega)
                      (try rw [show ((4 : Int)).toNat = 4 from rfl] at hx282_0)
                      replace p282 := eq_true p282
                      replace q282 := eq_true q282
                      have p283 : 0 ≤ (5 : Int) := (by omega)
                      have q283 : 5 < (t274.length : Int) := of_decide_eq_true (by first | (with_reducible assumption) | assumption)
                      obtain ⟨ad283, e283, hx283_0⟩ := Kd.at_int (Kd.R_reads' HO_3.out).2.2 5 p283 q283
                      obtain rfl : ad278 = ad283 := (by injection e283)
                      (try simp only [show (5 : Int).toNat = 5 from rfl, Nat.reduceMul, Nat.reduceEqDiff, Go.Addr.add, ↓reduceIte] at hx283_0)
                      have qi283 : (5 < t274.length) = True := eq_true (by omega)
                      (try rw [show ((5 : Int)).toNat = 5 from rfl] at hx283_0)
                      replace p283 := eq_true p283
                      replace q283 := eq_true q283
                      have p284 : 0 ≤ (6 : Int) := (by omega)
                      have q284 : 6 < (t274.length : Int) := of_decide_eq_true (by first | (with_reducible assumption) | assumption)
                      obtain ⟨ad284, e284, hx284_0⟩ := Kd.at_int (Kd.R_reads' HO_3.out).2.2 6 p284 q284
                      obtain rfl : ad278 = ad284 := (by injection e284)
                      (try simp only [show (6 : Int).toNat = 6 from rfl, Nat.reduceMul, Nat.reduceEqDiff, Go.Addr.add, ↓reduceIte] at hx284_0)
                      have qi284 : (6 < t274.length) = True := eq_true (by omega)
                      (try rw [show ((6 : Int)).toNat = 6 from rfl] at hx284_0)
                      replace p284 := eq_true p284
                      replace q284 := eq_true q284
                      have q37 : ((wrap64 (7 + (l0_4.length : Int))) : Int) ≤ ((t274.length : Int) : Int) := of_decide_eq_true (by first | (with_reducible assumption) | assumption)
                      obtain ⟨i037, hi037, _, hsz37, _⟩ := info_parts info5
                      have hroom37 : t274.length ≤ co36 := (Kd.R_reads' HO_3.out).2.1
                      have hC37 : Kd.C (Kd.int .u8) _ (some ad278) t274.length t274 := (Kd.R_reads' HO_3.out).2.2
                      have ql37 : (7 : Int) ≤ ((wrap64 (7 + (l0_4.length : Int))) : Int) := of_decide_eq_true (by first | (with_reducible assumption) | assumption)
                      have hcut37 := cut_mid (P := Try.prog) 22 5 .i64 .i64 Try.underlying22 hi037 1 hsz37 (some ad278) t274.length co36 7 (wrap64 (7 + (l0_4.length : Int))) (by omega) ql37 q37 hroom37
                      have hr37 := Kd.C_mid (lo := (7 : Int).toNat) (hi := ((wrap64 (7 + (l0_4.length : Int))) : Int).toNat) (c := co36) hC37 (by omega) (by omega) hroom37
                      obtain ⟨A37, hA37⟩ : ∃ A1, A1 = (if co36 = (7 : Int).toNat then (some ad278) else ((some ad278) : Option Addr).map (·.add ((7 : Int).toNat * 1))) := ⟨_, rfl⟩
                      obtain ⟨c37, hc37⟩ : ∃ c1, c1 = co36 - (7 : Int).toNat := ⟨_, rfl⟩
                      have hy37 : y285.length = ((wrap64 (7 + (l0_4.length : Int))) : Int).toNat - (7 : Int).toNat := (by first | exact cutlen Ny285.out q37 | (rw [Ny285.out, List.length_drop, List.length_take] <;> omega))
                      rw [show ((t274).take ((wrap64 (7 + (l0_4.length : Int))) : Int).toNat).drop (7 : Int).toNat = y285 from Ny285.out.symm] at hr37
                      replace hr37 : Kd.C (Kd.int .u8) _ A37 y285.length y285 := (by rw [hA37]; exact hr37)
                      rw [← hy37, ← hA37, ← hc37] at hcut37
                      have HR288 := Aside0.mk hr37
                      have HC288 := Aside0.mk (show y285.length ≤ c37 from by rw [hy37, hc37]; exact Nat.sub_le_sub_right (Nat.le_trans (by omega) hroom37) _)
                      clear hr37 hC37 hroom37 hi037 hsz37 hc37
                      have KY37 := Aside0.mk hy37
                      have KA37 := Aside0.mk hA37
                      clear hy37 hA37
                      have KL37 := Aside0.mk (show ((wrap64 (7 + (l0_4.length : Int))) : Int).toNat ≤ t274.length from by omega)
                      have KM37 := Aside0.mk (show 7 ≤ ((wrap64 (7 + (l0_4.length : Int))) : Int).toNat from by omega)
                      replace q37 := eq_true q37
                      refine start_ (n := 71) (S := fun w' => w'.cell? ⟨gb272, 0, none⟩ = some (.int .i64 a0_0) ∧ w'.cell? ⟨gb272, 1, none⟩ = some (.int .i64 a0_1) ∧ w'.cell? ⟨gb272, 2, none⟩ = some (.int .i64 a0_2) ∧ w'.cell? ⟨gb272, 3, none⟩ = some (.int .i64 a0_3) ∧ w'.cell? ⟨gb272, 4, none⟩ = some (.slice A0_4 l0_4.length c0_4) ∧ w'.cell? ad278 = some (.int .u8 (rd t274 0)) ∧ w'.cell? ⟨ad278.block, ad278.off + 1, none⟩ = some (.int .u8 (rd t274 1)) ∧ w'.cell? ⟨ad278.block, ad278.off + 2, none⟩ = some (.int .u8 (rd t274 2)) ∧ w'.cell? ⟨ad278.block, ad278.off + 3, none⟩ = some (.int .u8 (rd t274 3)) ∧ w'.cell? ⟨ad278.block, ad278.off + 4, none⟩ = some (.int .u8 (rd t274 4)) ∧ w'.cell? ⟨ad278.block, ad278.off + 5, none⟩ = some (.int .u8 (rd t274 5)) ∧ w'.cell? ⟨ad278.block, ad278.off + 6, none⟩ = some (.int .u8 (rd t274 6))) (ds := []) (bu 71 0) (by kernel_rfl) rfl rfl ⟨(blk_cell BK272.out 0).trans rfl, (blk_cell BK272.out 1).trans rfl, (blk_cell BK272.out 2).trans rfl, (blk_cell BK272.out 3).trans rfl, (blk_cell BK272.out 4).trans rfl, hx278_0, hx279_0, hx280_0, hx281_0, hx282_0, hx283_0, hx284_0⟩ (fun hHeld => ?_); refine with_tabW wherrylaw20_FrameFields.tab6 wherrylaw20_FrameFields.bits6 (fun HT_ HW_ => ?_)
                      generalize wc.drew = w35 at HO_3 BK272 HB HR288 hx278_0 hx279_0 hx280_0 hx281_0 hx282_0 hx283_0 hx284_0 hHeld ⊢
                      refine pA 0 30 (bu 71 1) ?_ HT_ rfl rfl (.inl ⟨by rfl, ?_⟩) ?_ ?_ ?_; rotate_left; (focus intro w'; go_simp; with_reducible rfl); rotate_left; (focus simp only [pk]; rfl)
                      refine pA 1 31 (bu 71 2) ?_ HT_ rfl rfl (.inl ⟨by rfl, ?_⟩) ?_ ?_ ?_; rotate_left; (focus intro w'; go_simp; with_reducible rfl); rotate_left; (focus simp only [pk]; rfl)
                      refine pA 4 34 (bm 71 0x13) ?_ HT_ rfl rfl (.inl ⟨by rfl, ?_⟩) ?_ ?_ ?_; rotate_left; (focus intro w'; go_simp; with_reducible rfl); rotate_left; (focus simp only [pk]; rfl)
                      refine tA 2 32 (bm 71 0x17) ?_ HT_ HW_ rfl rfl (.inl ⟨by rfl, ?_⟩) hHeld ?_ ?_ ?_; rotate_left; (focus rintro w' ⟨s0, s1, s2, s3, s4, s5, s6, s7, s8, s9, s10, s11⟩; go_simp; with_reducible rfl); rotate_left; (focus simp only [pk]; rfl)
                      refine pA 3 33 (bu 71 5) ?_ HT_ rfl rfl (.inl ⟨by rfl, ?_⟩) ?_ ?_ ?_; rotate_left; (focus intro w'; go_simp; with_reducible rfl); rotate_left; (focus simp only [pk]; rfl)
                      refine tA 5 35 (bu 71 6) ?_ HT_ HW_ rfl rfl (.inl ⟨by rfl, ?_⟩) hHeld ?_ ?_ ?_; rotate_left; (focus rintro w' ⟨s0, s1, s2, s3, s4, s5, s6, s7, s8, s9, s10, s11⟩; go_simp; with_reducible rfl); rotate_left; (focus simp only [pk]; rfl)
                      refine pA 6 36 (bu 71 7) ?_ HT_ rfl rfl (.inl ⟨by rfl, ?_⟩) ?_ ?_ ?_; rotate_left; (focus intro w'; go_simp; with_reducible rfl); rotate_left; (focus simp only [pk]; rfl)
                      refine pA 7 37 (bu 71 8) ?_ HT_ rfl rfl (.inl ⟨by rfl, ?_⟩) ?_ ?_ ?_; rotate_left; (focus intro w'; go_simp; with_reducible rfl); rotate_left; (focus simp only [pk]; rfl)
                      refine pA 8 38 (bu 71 9) ?_ HT_ rfl rfl (.inl ⟨by rfl, ?_⟩) ?_ ?_ ?_; rotate_left; (focus intro w'; go_simp; with_reducible rfl); rotate_left; (focus simp only [pk]; rfl)
                      refine pA 9 39 (bu 71 10) ?_ HT_ rfl rfl (.inl ⟨by rfl, ?_⟩) ?_ ?_ ?_; rotate_left; (focus intro w'; go_simp; with_reducible rfl); rotate_left; (focus simp only [pk]; rfl)
                      refine pA 13 43 (bm 71 0x23ff) ?_ HT_ rfl rfl (.inl ⟨by rfl, ?_⟩) ?_ ?_ ?_; rotate_left; (focus intro w'; go_simp; with_reducible rfl); rotate_left; (focus simp only [pk]; rfl)
                      refine pA 14 44 (bm 71 0x63ff) ?_ HT_ rfl rfl (.inl ⟨by rfl, ?_⟩) ?_ ?_ ?_; rotate_left; (focus intro w'; go_simp; with_reducible rfl); rotate_left; (focus simp only [pk]; rfl)
                      refine pA 18 48 (bm 71 0x463ff) ?_ HT_ rfl rfl (.inl ⟨by rfl, ?_⟩) ?_ ?_ ?_; rotate_left; (focus intro w'; go_simp; with_reducible rfl); rotate_left; (focus simp only [pk]; rfl)
                      refine tA 10 40 (bm 71 0x467ff) ?_ HT_ HW_ rfl rfl (.inl ⟨by rfl, ?_⟩) hHeld ?_ ?_ ?_; rotate_left; (focus rintro w' ⟨s0, s1, s2, s3, s4, s5, s6, s7, s8, s9, s10, s11⟩; go_simp; with_reducible rfl); rotate_left; (focus simp only [pk]; rfl)
                      refine pA 11 41 (bm 71 0x46fff) ?_ HT_ rfl rfl (.inl ⟨by rfl, ?_⟩) ?_ ?_ ?_; rotate_left; (focus intro w'; go_simp; with_reducible rfl); rotate_left; (focus simp only [pk]; rfl)
                      refine pA 12 42 (bm 71 0x47fff) ?_ HT_ rfl rfl (.inl ⟨by rfl, ?_⟩) ?_ ?_ ?_; rotate_left; (focus intro w'; go_simp; with_reducible rfl); rotate_left; (focus simp only [pk]; rfl)
                      refine tA 15 45 (bm 71 0x4ffff) ?_ HT_ HW_ rfl rfl (.inl ⟨by rfl, ?_⟩) hHeld ?_ ?_ ?_; rotate_left; (focus rintro w' ⟨s0, s1, s2, s3, s4, s5, s6, s7, s8, s9, s10, s11⟩; go_simp; with_reducible rfl); rotate_left; (focus simp only [pk]; rfl)
                      refine pA 16 46 (bm 71 0x5ffff) ?_ HT_ rfl rfl (.inl ⟨by rfl, ?_⟩) ?_ ?_ ?_; rotate_left; (focus intro w'; go_simp; with_reducible rfl); rotate_left; (focus simp only [pk]; rfl)
                      refine pA 17 47 (bu 71 19) ?_ HT_ rfl rfl (.inl ⟨by rfl, ?_⟩) ?_ ?_ ?_; rotate_left; (focus intro w'; go_simp; with_reducible rfl); rotate_left; (focus simp only [pk]; rfl)
                      refine tA 19 49 (bu 71 20) ?_ HT_ HW_ rfl rfl (.inl ⟨by rfl, ?_⟩) hHeld ?_ ?_ ?_; rotate_left; (focus rintro w' ⟨s0, s1, s2, s3, s4, s5, s6, s7, s8, s9, s10, s11⟩; go_simp; with_reducible rfl); rotate_left; (focus simp only [pk]; rfl)
                      refine pA 20 50 (bu 71 21) ?_ HT_ rfl rfl (.inl ⟨by rfl, ?_⟩) ?_ ?_ ?_; rotate_left; (focus intro w'; go_simp; with_reducible rfl); rotate_left; (focus simp only [pk]; rfl)
                      refine pA 21 51 (bu 71 22) ?_ HT_ rfl rfl (.inl ⟨by rfl, ?_⟩) ?_ ?_ ?_; rotate_left; (focus intro w'; go_simp; with_reducible rfl); rotate_left; (focus simp only [pk]; rfl)
                      refine pA 22 52 (bu 71 23) ?_ HT_ rfl rfl (.inl ⟨by rfl, ?_⟩) ?_ ?_ ?_; rotate_left; (focus intro w'; go_simp; with_reducible rfl); rotate_left; (focus simp only [pk]; rfl)
                      refine pA 23 53 (bu 71 24) ?_ HT_ rfl rfl (.inl ⟨by rfl, ?_⟩) ?_ ?_ ?_; rotate_left; (focus intro w'; go_simp; with_reducible rfl); rotate_left; (focus simp only [pk]; rfl)
                      refine pA 24 54 (bu 71 25) ?_ HT_ rfl rfl (.inl ⟨by rfl, ?_⟩) ?_ ?_ ?_; rotate_left; (focus intro w'; go_simp; with_reducible rfl); rotate_left; (focus simp only [pk]; rfl)
                      refine pA 28 58 (bm 71 0x11ffffff) ?_ HT_ rfl rfl (.inl ⟨by rfl, ?_⟩) ?_ ?_ ?_; rotate_left; (focus intro w'; go_simp; with_reducible rfl); rotate_left; (focus simp only [pk]; rfl)
                      refine pA 29 59 (bm 71 0x31ffffff) ?_ HT_ rfl rfl (.inl ⟨by rfl, ?_⟩) ?_ ?_ ?_; rotate_left; (focus intro w'; go_simp; with_reducible rfl); rotate_left; (focus simp only [pk]; rfl)
                      refine pA 33 63 (bm 71 0x231ffffff) ?_ HT_ rfl rfl (.inl ⟨by rfl, ?_⟩) ?_ ?_ ?_; rotate_left; (focus intro w'; go_simp; with_reducible rfl); rotate_left; (focus simp only [pk]; rfl)
                      refine tA 25 55 (bm 71 0x233ffffff) ?_ HT_ HW_ rfl rfl (.inl ⟨by rfl, ?_⟩) hHeld ?_ ?_ ?_; rotate_left; (focus rintro w' ⟨s0, s1, s2, s3, s4, s5, s6, s7, s8, s9, s10, s11⟩; go_simp; with_reducible rfl); rotate_left; (focus simp only [pk]; rfl)
                      refine pA 26 56 (bm 71 0x237ffffff) ?_ HT_ rfl rfl (.inl ⟨by rfl, ?_⟩) ?_ ?_ ?_; rotate_left; (focus intro w'; go_simp; with_reducible rfl); rotate_left; (focus simp only [pk]; rfl)
                      refine pA 27 57 (bm 71 0x23fffffff) ?_ HT_ rfl rfl (.inl ⟨by rfl, ?_⟩) ?_ ?_ ?_; rotate_left; (focus intro w'; go_simp; with_reducible rfl); rotate_left; (focus simp only [pk]; rfl)
                      refine tA 30 60 (bm 71 0x27fffffff) ?_ HT_ HW_ rfl rfl (.inl ⟨by rfl, ?_⟩) hHeld ?_ ?_ ?_; rotate_left; (focus rintro w' ⟨s0, s1, s2, s3, s4, s5, s6, s7, s8, s9, s10, s11⟩; go_simp; with_reducible rfl); rotate_left; (focus simp only [pk]; rfl)
                      refine pA 31 61 (bm 71 0x2ffffffff) ?_ HT_ rfl rfl (.inl ⟨by rfl, ?_⟩) ?_ ?_ ?_; rotate_left; (focus intro w'; go_simp; with_reducible rfl); rotate_left; (focus simp only [pk]; rfl)
                      refine pA 32 62 (bu 71 34) ?_ HT_ rfl rfl (.inl ⟨by rfl, ?_⟩) ?_ ?_ ?_; rotate_left; (focus intro w'; go_simp; with_reducible rfl); rotate_left; (focus simp only [pk]; rfl)
                      refine tA 34 64 (bu 71 35) ?_ HT_ HW_ rfl rfl (.inl ⟨by rfl, ?_⟩) hHeld ?_ ?_ ?_; rotate_left; (focus rintro w' ⟨s0, s1, s2, s3, s4, s5, s6, s7, s8, s9, s10, s11⟩; go_simp; with_reducible rfl); rotate_left; (focus simp only [pk]; rfl)
                      refine pA 35 65 (bu 71 36) ?_ HT_ rfl rfl (.inl ⟨by rfl, ?_⟩) ?_ ?_ ?_; rotate_left; (focus intro w'; go_simp; with_reducible rfl); rotate_left; (focus simp only [pk]; rfl)
                      refine pA 36 66 (bu 71 37) ?_ HT_ rfl rfl (.inl ⟨by rfl, ?_⟩) ?_ ?_ ?_; rotate_left; (focus intro w'; go_simp; with_reducible rfl); rotate_left; (focus simp only [pk]; rfl)
                      refine pA 37 67 (bu 71 38) ?_ HT_ rfl rfl (.inl ⟨by rfl, ?_⟩) ?_ ?_ ?_; rotate_left; (focus intro w'; go_simp; with_reducible rfl); rotate_left; (focus simp only [pk]; rfl)
                      refine pA 38 68 (bu 71 39) ?_ HT_ rfl rfl (.inl ⟨by rfl, ?_⟩) ?_ ?_ ?_; rotate_left; (focus intro w'; go_simp; with_reducible rfl); rotate_left; (focus simp only [pk]; rfl)
                      refine pA 39 69 (bu 71 40) ?_ HT_ rfl rfl (.inl ⟨by rfl, ?_⟩) ?_ ?_ ?_; rotate_left; (focus intro w'; go_simp; with_reducible rfl); rotate_left; (focus simp only [pk]; rfl)
                      refine pA 42 72 (bm 71 0x4ffffffffff) ?_ HT_ rfl rfl (.inl ⟨by rfl, ?_⟩) ?_ ?_ ?_; rotate_left; (focus intro w'; go_simp; with_reducible rfl); rotate_left; (focus simp only [pk]; rfl)
                      refine tA 40 70 (bm 71 0x5ffffffffff) ?_ HT_ HW_ rfl rfl (.inl ⟨by rfl, ?_⟩) hHeld ?_ ?_ ?_; rotate_left; (focus rintro w' ⟨s0, s1, s2, s3, s4, s5, s6, s7, s8, s9, s10, s11⟩; go_simp; with_reducible rfl); rotate_left; (focus simp only [pk]; rfl)
                      refine pA 41 71 (bu 71 43) ?_ HT_ rfl rfl (.inl ⟨by rfl, ?_⟩) ?_ ?_ ?_; rotate_left; (focus intro w'; go_simp; with_reducible rfl); rotate_left; (focus simp only [pk]; rfl)
                      refine tA 43 73 (bu 71 44) ?_ HT_ HW_ rfl rfl (.inl ⟨by rfl, ?_⟩) hHeld ?_ ?_ ?_; rotate_left; (focus rintro w' ⟨s0, s1, s2, s3, s4, s5, s6, s7, s8, s9, s10, s11⟩; go_simp; with_reducible rfl); rotate_left; (focus simp only [pk]; rfl)
                      refine pA 44 74 (bu 71 45) ?_ HT_ rfl rfl (.inl ⟨by rfl, ?_⟩) ?_ ?_ ?_; rotate_left; (focus intro w'; go_simp; with_reducible rfl); rotate_left; (focus simp only [pk]; rfl)
                      refine pA 45 75 (bu 71 46) ?_ HT_ rfl rfl (.inl ⟨by rfl, ?_⟩) ?_ ?_ ?_; rotate_left; (focus intro w'; go_simp; with_reducible rfl); rotate_left; (focus simp only [pk]; rfl)
                      refine pA 46 76 (bu 71 47) ?_ HT_ rfl rfl (.inl ⟨by rfl, ?_⟩) ?_ ?_ ?_; rotate_left; (focus intro w'; go_simp; with_reducible rfl); rotate_left; (focus simp only [pk]; rfl)
                      refine pA 47 77 (bu 71 48) ?_ HT_ rfl rfl (.inl ⟨by rfl, ?_⟩) ?_ ?_ ?_; rotate_left; (focus intro w'; go_simp; with_reducible rfl); rotate_left; (focus simp only [pk]; rfl)
                      refine pA 48 78 (bu 71 49) ?_ HT_ rfl rfl (.inl ⟨by rfl, ?_⟩) ?_ ?_ ?_; rotate_left; (focus intro w'; go_simp; with_reducible rfl); rotate_left; (focus simp only [pk]; rfl)
                      refine pA 51 81 (bm 71 0x9ffffffffffff) ?_ HT_ rfl rfl (.inl ⟨by rfl, ?_⟩) ?_ ?_ ?_; rotate_left; (focus intro w'; go_simp; with_reducible rfl); rotate_left; (focus simp only [pk]; rfl)
                      refine tA 49 79 (bm 71 0xbffffffffffff) ?_ HT_ HW_ rfl rfl (.inl ⟨by rfl, ?_⟩) hHeld ?_ ?_ ?_; rotate_left; (focus rintro w' ⟨s0, s1, s2, s3, s4, s5, s6, s7, s8, s9, s10, s11⟩; go_simp; with_reducible rfl); rotate_left; (focus simp only [pk]; rfl)
                      refine pA 50 80 (bu 71 52) ?_ HT_ rfl rfl (.inl ⟨by rfl, ?_⟩) ?_ ?_ ?_; rotate_left; (focus intro w'; go_simp; with_reducible rfl); rotate_left; (focus simp only [pk]; rfl)
                      refine tA 52 82 (bu 71 53) ?_ HT_ HW_ rfl rfl (.inl ⟨by rfl, ?_⟩) hHeld ?_ ?_ ?_; rotate_left; (focus rintro w' ⟨s0, s1, s2, s3, s4, s5, s6, s7, s8, s9, s10, s11⟩; go_simp; with_reducible rfl); rotate_left; (focus simp only [pk]; rfl)
                      refine pA 53 83 (bu 71 54) ?_ HT_ rfl rfl (.inl ⟨by rfl, ?_⟩) ?_ ?_ ?_; rotate_left; (focus intro w'; go_simp; with_reducible rfl); rotate_left; (focus simp only [pk]; rfl)
                      refine pA 54 84 (bu 71 55) ?_ HT_ rfl rfl (.inl ⟨by rfl, ?_⟩) ?_ ?_ ?_; rotate_left; (focus intro w'; go_simp; with_reducible rfl); rotate_left; (focus simp only [pk]; rfl)
                      refine pA 55 85 (bu 71 56) ?_ HT_ rfl rfl (.inl ⟨by rfl, ?_⟩) ?_ ?_ ?_; rotate_left; (focus intro w'; go_simp; with_reducible rfl); rotate_left; (focus simp only [pk]; rfl)
                      refine pA 56 86 (bu 71 57) ?_ HT_ rfl rfl (.inl ⟨by rfl, ?_⟩) ?_ ?_ ?_; rotate_left; (focus intro w'; go_simp; with_reducible rfl); rotate_left; (focus simp only [pk]; rfl)
                      refine pA 57 87 (bu 71 58) ?_ HT_ rfl rfl (.inl ⟨by rfl, ?_⟩) ?_ ?_ ?_; rotate_left; (focus intro w'; go_simp; with_reducible rfl); rotate_left; (focus simp only [pk]; rfl)
                      refine pA 58 88 (bu 71 59) ?_ HT_ rfl rfl (.inl ⟨by rfl, ?_⟩) ?_ ?_ ?_; rotate_left; (focus intro w'; go_simp; with_reducible rfl); rotate_left; (focus simp only [pk]; rfl)
                      refine pA 63 93 (bm 71 0x87ffffffffffffff) ?_ HT_ rfl rfl (.inl ⟨by rfl, ?_⟩) ?_ ?_ ?_; rotate_left; (focus intro w'; go_simp; with_reducible rfl); rotate_left; (focus simp only [pk]; rfl)
                      refine tA 59 89 (bm 71 0x8fffffffffffffff) ?_ HT_ HW_ rfl rfl (.inl ⟨by rfl, ?_⟩) hHeld ?_ ?_ ?_; rotate_left; (focus rintro w' ⟨s0, s1, s2, s3, s4, s5, s6, s7, s8, s9, s10, s11⟩; go_simp; with_reducible rfl); rotate_left; (focus simp only [pk]; rfl)
                      refine pA 60 90 (bm 71 0x9fffffffffffffff) ?_ HT_ rfl rfl (.inl ⟨by rfl, ?_⟩) ?_ ?_ ?_; rotate_left; (focus intro w'; go_simp; with_reducible rfl); rotate_left; (focus simp only [pk]; rfl)
                      refine pA 61 91 (bm 71 0xbfffffffffffffff) ?_ HT_ rfl rfl (.inl ⟨by rfl, ?_⟩) ?_ ?_ ?_; rotate_left; (focus intro w'; go_simp; with_reducible rfl); rotate_left; (focus simp only [pk]; rfl)
                      refine pA 62 92 (bu 71 64) ?_ HT_ rfl rfl (.inl ⟨by rfl, ?_⟩) ?_ ?_ ?_; rotate_left; (focus intro w'; go_simp; with_reducible rfl); rotate_left; (focus simp only [pk]; rfl)
                      refine tA 64 94 (bu 71 65) ?_ HT_ HW_ rfl rfl (.inl ⟨by rfl, ?_⟩) hHeld ?_ ?_ ?_; rotate_left; (focus rintro w' ⟨s0, s1, s2, s3, s4, s5, s6, s7, s8, s9, s10, s11⟩; go_simp; with_reducible rfl); rotate_left; (focus simp only [pk]; rfl)
                      refine one_ (i := 65) (N := some 95) (bu 71 66) rfl rfl (one_of HT_.out (by kernel_rfl)) (by decide) (fun K hK => ?_)
                      refine goes_ Try.func13 (by kernel_rfl) rfl #[.slice A37 y285.length c37, .slice A0_4 l0_4.length c0_4] (by rfl) rfl rfl (by (try simp only [List.map_toArray, List.map_cons, List.map_nil]); first | done | rfl | (simp only [List.length_drop, List.length_take]; rfl) | (go_simp; done) | (go_simp; rfl)) ?_
                      with_reducible refine (wherrykeep_Bytes.calls kj10 _ _ y285 _ _ l0_4 true _ ?side1 ?side2 ?side3 ?side4 A32.out).mono ?_
                      (case side1 => repeat (first | exact (by first | with_reducible exact HR288.out | exact sC HR288.out) | (with_reducible refine Kd.C_alloc ?_ _) | (with_reducible refine Kd.C_drewN ?_ _) | (with_reducible refine Kd.C_drew ?_)))
                      (case side2 => exact HC288.out)
                      (case side3 => first | with_reducible exact (Kd.C_below HR0_4.out HB.out) | exact sC ((Kd.C_below HR0_4.out HB.out)))
                      (case side4 => exact HC0_4.out)
                      rintro e w' ⟨rfl, ⟨nd, rfl⟩⟩
                      refine ⟨_, rfl, ?_⟩
                      refine hK.out _ _ ⟨(blk_cell BK272.out 0).trans rfl, (blk_cell BK272.out 1).trans rfl, (blk_cell BK272.out 2).trans rfl, (blk_cell BK272.out 3).trans rfl, (blk_cell BK272.out 4).trans rfl, hHeld.2.2.2.2.2.1, hHeld.2.2.2.2.2.2.1, hHeld.2.2.2.2.2.2.2.1, hHeld.2.2.2.2.2.2.2.2.1, hHeld.2.2.2.2.2.2.2.2.2.1, hHeld.2.2.2.2.2.2.2.2.2.2.1, hHeld.2.2.2.2.2.2.2.2.2.2.2⟩ (fun hHeld => ?_)
                      clear hK K
                      refine norm_ (a' := ?_) ?_ ?_
                      rotate_left
                      ·show Act.put _ (some 95) _ = _
                       simp only [Act.put, List.setIfInBounds_toArray, List.set_cons_zero, List.set_cons_succ, i64_w, i32_w]
                       rfl
                      refine pA 66 96 (bu 71 67) ?_ HT_ rfl rfl (.inl ⟨by rfl, ?_⟩) ?_ ?_ ?_; rotate_left; (focus intro w'; go_simp; with_reducible rfl); rotate_left; (focus simp only [pk]; rfl)
                      refine pA 67 97 (bu 71 68) ?_ HT_ rfl rfl (.inl ⟨by rfl, ?_⟩) ?_ ?_ ?_; rotate_left; (focus intro w'; go_simp; with_reducible rfl); rotate_left; (focus simp only [pk]; rfl)
                      refine one_ (i := 68) (N := some 98) (bu 71 69) rfl rfl (one_of HT_.out (by kernel_rfl)) (by decide) (fun K hK => ?_)
                      refine goes_ Try.func14 (by kernel_rfl) rfl #[] (by rfl) rfl rfl (by (try simp only [List.map_toArray, List.map_cons, List.map_nil]); first | done | rfl | (simp only [List.length_drop, List.length_take]; rfl) | (go_simp; done) | (go_simp; rfl)) ?_
                      with_reducible refine (wherrylaw20_wakes.calls kj10  t290 _ A34.out).mono ?_
                      rintro e w38 ⟨rfl, hb⟩
                      have HS5_ := (hb.cell (World.block_lt_of_cell? _ _ (hHeld.2.2.2.2.2.1))).trans (hHeld.2.2.2.2.2.1)
                      have HS6_ := (hb.cell (World.block_lt_of_cell? _ _ (hHeld.2.2.2.2.2.2.1))).trans (hHeld.2.2.2.2.2.2.1)
                      have HS7_ := (hb.cell (World.block_lt_of_cell? _ _ (hHeld.2.2.2.2.2.2.2.1))).trans (hHeld.2.2.2.2.2.2.2.1)
                      have HS8_ := (hb.cell (World.block_lt_of_cell? _ _ (hHeld.2.2.2.2.2.2.2.2.1))).trans (hHeld.2.2.2.2.2.2.2.2.1)
                      have HS9_ := (hb.cell (World.block_lt_of_cell? _ _ (hHeld.2.2.2.2.2.2.2.2.2.1))).trans (hHeld.2.2.2.2.2.2.2.2.2.1)
                      have HS10_ := (hb.cell (World.block_lt_of_cell? _ _ (hHeld.2.2.2.2.2.2.2.2.2.2.1))).trans (hHeld.2.2.2.2.2.2.2.2.2.2.1)
                      have HS11_ := (hb.cell (World.block_lt_of_cell? _ _ (hHeld.2.2.2.2.2.2.2.2.2.2.2))).trans (hHeld.2.2.2.2.2.2.2.2.2.2.2)
                      refine ⟨_, rfl, ?_⟩
                      have n0_ := Aside0.mk (bR HO_3.out hb)
                      have n1_ := Aside0.mk (bK BK272.out hb)
                      have n2_ := Aside0.mk (Kd.C_below (by first | with_reducible exact HR288.out | exact sC HR288.out) hb)
                      have n3_ := Aside0.mk (below_step (by repeat (first | (with_reducible first | exact HB.out | apply b1 | apply b2 | apply b3 | refine below_set ?_ GE272.out) | exact HB.out)) hb)
                      clear HO_3
                      clear BK272
                      clear HR288
                      clear HB
                      have HO_3 := n0_
                      have BK272 := n1_
                      have HR288 := n2_
                      have HB := n3_
                      clear n0_ n1_ n2_ n3_
                      (try clear hb)
                      (try clear hb2)
                      (try clear hk)
                      (try clear hi)
                      refine hK.out _ _ ⟨(blk_cell BK272.out 0).trans rfl, (blk_cell BK272.out 1).trans rfl, (blk_cell BK272.out 2).trans rfl, (blk_cell BK272.out 3).trans rfl, (blk_cell BK272.out 4).trans rfl, HS5_, HS6_, HS7_, HS8_, HS9_, HS10_, HS11_⟩ (fun hHeld => ?_)
                      clear hK K
                      refine norm_ (a' := ?_) ?_ ?_
                      rotate_left
                      ·show Act.put _ (some 98) _ = _
                       simp only [Act.put, List.setIfInBounds_toArray, List.set_cons_zero, List.set_cons_succ, i64_w, i32_w]
                       rfl
                      refine pA 69 99 (bu 71 70) ?_ HT_ rfl rfl (.inl ⟨by rfl, ?_⟩) ?_ ?_ ?_; rotate_left; (focus intro w'; go_simp; with_reducible rfl); rotate_left; (focus simp only [pk]; rfl)
                      refine pA 70 2 (bu 71 71) ?_ HT_ rfl rfl (.inl ⟨by rfl, ?_⟩) ?_ ?_ ?_; rotate_left; (focus intro w'; go_simp; with_reducible rfl); rotate_left; (focus simp only [pk]; rfl)
                      refine done_ (done_of HT_.out (by kernel_rfl)) ?_
                      try go_wp2
                      go_ret
                      exact ⟨by first | rfl | (simp [errW_none, errW_some] <;> rfl) | (simp [*, errW_none, errW_some] <;> rfl), by repeat (first | (with_reducible first | exact HB.out | apply b1 | apply b2 | apply b3 | refine below_set ?_ GE272.out) | exact HB.out)⟩
                     ·replace c33 := Bool.eq_false_iff.mpr c33
                      subst c33
                      have H1 : (some false) = some r := by rw [if_neg (show ¬ (false = true) by decide)] at H; exact H
                      clear H
                      have H := H1
                      clear H1
                      obtain rfl := Option.some.inj H
                      try go_wp2
                      have n0_ := Aside0.mk (Kd.R_drew HO_3.out)
                      have n1_ := Aside0.mk (blk_drew BK272.out)
                      have n2_ := Aside0.mk (below_drew1 HB.out)
                      clear HO_3
                      clear BK272
                      clear HB
                      have HO_3 := n0_
                      have BK272 := n1_
                      have HB := n2_
                      clear n0_ n1_ n2_
                      obtain ⟨Ao40, co40, eo40⟩ := Kd.R_slice HO_3.out
                      (first | subst eo40 | (injection eo40 with f1_ f2_ f3_; have f4_ := f1_.symm; have f5_ := f3_.symm; clear f1_ f2_ f3_; subst f4_; subst f5_))
                      have p278 : 0 ≤ (0 : Int) := (by omega)
                      have q278 : 0 < (t274.length : Int) := of_decide_eq_true (by first | (with_reducible assumption) | assumption)
                      obtain ⟨ad278, e278, hx278_0⟩ := Kd.at_int (Kd.R_reads' HO_3.out).2.2 0 p278 q278
                      cases e278
                      have qi278 : (0 < t274.length) = True := eq_true (by omega)
                      (try rw [show ((0 : Int)).toNat = 0 from rfl] at hx278_0)
                      (try rw [Addr.add_zero'] at hx278_0)
                      replace p278 := eq_true p278
                      replace q278 := eq_true q278
                      have p279 : 0 ≤ (1 : Int) := (by omega)
                      have q279 : 1 < (t274.length : Int) := of_decide_eq_true (by first | (with_reducible assumption) | assumption)
                      obtain ⟨ad279, e279, hx279_0⟩ := Kd.at_int (Kd.R_reads' HO_3.out).2.2 1 p279 q279
                      obtain rfl : ad278 = ad279 := (by injection e279)
                      (try simp only [show (1 : Int).toNat = 1 from rfl, Nat.reduceMul, Nat.reduceEqDiff, Go.Addr.add, ↓reduceIte] at hx279_0)
                      have qi279 : (1 < t274.length) = True := eq_true (by omega)
                      (try rw [show ((1 : Int)).toNat = 1 from rfl] at hx279_0)
                      replace p279 := eq_true p279
                      replace q279 := eq_true q279
                      have p280 : 0 ≤ (2 : Int) := (by omega)
                      have q280 : 2 < (t274.length : Int) := of_decide_eq_true (by first | (with_reducible assumption) | assumption)
                      obtain ⟨ad280, e280, hx280_0⟩ := Kd.at_int (Kd.R_reads' HO_3.out).2.2 2 p280 q280
                      obtain rfl : ad278 = ad280 := (by injection e280)
                      (try simp only [show (2 : Int).toNat = 2 from rfl, Nat.reduceMul, Nat.reduceEqDiff, Go.Addr.add, ↓reduceIte] at hx280_0)
                      have qi280 : (2 < t274.length) = True := eq_true (by omega)
                      (try rw [show ((2 : Int)).toNat = 2 from rfl] at hx280_0)
                      replace p280 := eq_true p280
                      replace q280 := eq_true q280
                      have p281 : 0 ≤ (3 : Int) := (by omega)
                      have q281 : 3 < (t274.length : Int) := of_decide_eq_true (by first | (with_reducible assumption) | assumption)
                      obtain ⟨ad281, e281, hx281_0⟩ := Kd.at_int (Kd.R_reads' HO_3.out).2.2 3 p281 q281
                      obtain rfl : ad278 = ad281 := (by injection e281)
                      (try simp only [show (3 : Int).toNat = 3 from rfl, Nat.reduceMul, Nat.reduceEqDiff, Go.Addr.add, ↓reduceIte] at hx281_0)
                      have qi281 : (3 < t274.length) = True := eq_true (by omega)
                      (try rw [show ((3 : Int)).toNat = 3 from rfl] at hx281_0)
                      replace p281 := eq_true p281
                      replace q281 := eq_true q281
                      have p282 : 0 ≤ (4 : Int) := (by omega)
                      have q282 : 4 < (t274.length : Int) := of_decide_eq_true (by first | (with_reducible assumption) | assumption)
                      obtain ⟨ad282, e282, hx282_0⟩ := Kd.at_int (Kd.R_reads' HO_3.out).2.2 4 p282 q282
                      obtain rfl : ad278 = ad282 := (by injection e282)
                      (try simp only [show (4 : Int).toNat = 4 from rfl, Nat.reduceMul, Nat.reduceEqDiff, Go.Addr.add, ↓reduceIte] at hx282_0)
                      have qi282 : (4 < t274.length) = True := eq_true (by omega)
                      (try rw [show ((4 : Int)).toNat = 4 from rfl] at hx282_0)
                      replace p282 := eq_true p282
                      replace q282 := eq_true q282
                      have p283 : 0 ≤ (5 : Int) := (by omega)
                      have q283 : 5 < (t274.length : Int) := of_decide_eq_true (by first | (with_reducible assumption) | assumption)
                      obtain ⟨ad283, e283, hx283_0⟩ := Kd.at_int (Kd.R_reads' HO_3.out).2.2 5 p283 q283
                      obtain rfl : ad278 = ad283 := (by injection e283)
                      (try simp only [show (5 : Int).toNat = 5 from rfl, Nat.reduceMul, Nat.reduceEqDiff, Go.Addr.add, ↓reduceIte] at hx283_0)
                      have qi283 : (5 < t274.length) = True := eq_true (by omega)
                      (try rw [show ((5 : Int)).toNat = 5 from rfl] at hx283_0)
                      replace p283 := eq_true p283
                      replace q283 := eq_true q283
                      have p284 : 0 ≤ (6 : Int) := (by omega)
                      have q284 : 6 < (t274.length : Int) := of_decide_eq_true (by first | (with_reducible assumption) | assumption)
                      obtain ⟨ad284, e284, hx284_0⟩ := Kd.at_int (Kd.R_reads' HO_3.out).2.2 6 p284 q284
                      obtain rfl : ad278 = ad284 := (by injection e284)
                      (try simp only [show (6 : Int).toNat = 6 from rfl, Nat.reduceMul, Nat.reduceEqDiff, Go.Addr.add, ↓reduceIte] at hx284_0)
                      have qi284 : (6 < t274.length) = True := eq_true (by omega)
                      (try rw [show ((6 : Int)).toNat = 6 from rfl] at hx284_0)
                      replace p284 := eq_true p284
                      replace q284 := eq_true q284
                      have q41 : ((wrap64 (7 + (l0_4.length : Int))) : Int) ≤ ((t274.length : Int) : Int) := of_decide_eq_true (by first | (with_reducible assumption) | assumption)
                      obtain ⟨i041, hi041, _, hsz41, _⟩ := info_parts info5
                      have hroom41 : t274.length ≤ co40 := (Kd.R_reads' HO_3.out).2.1
                      have hC41 : Kd.C (Kd.int .u8) _ (some ad278) t274.length t274 := (Kd.R_reads' HO_3.out).2.2
                      have ql41 : (7 : Int) ≤ ((wrap64 (7 + (l0_4.length : Int))) : Int) := of_decide_eq_true (by first | (with_reducible assumption) | assumption)
                      have hcut41 := cut_mid (P := Try.prog) 22 5 .i64 .i64 Try.underlying22 hi041 1 hsz41 (some ad278) t274.length co40 7 (wrap64 (7 + (l0_4.length : Int))) (by omega) ql41 q41 hroom41
                      have hr41 := Kd.C_mid (lo := (7 : Int).toNat) (hi := ((wrap64 (7 + (l0_4.length : Int))) : Int).toNat) (c := co40) hC41 (by omega) (by omega) hroom41
                      obtain ⟨A41, hA41⟩ : ∃ A1, A1 = (if co40 = (7 : Int).toNat then (some ad278) else ((some ad278) : Option Addr).map (·.add ((7 : Int).toNat * 1))) := ⟨_, rfl⟩
                      obtain ⟨c41, hc41⟩ : ∃ c1, c1 = co40 - (7 : Int).toNat := ⟨_, rfl⟩
                      have hy41 : y285.length = ((wrap64 (7 + (l0_4.length : Int))) : Int).toNat - (7 : Int).toNat := (by first | exact cutlen Ny285.out q41 | (rw [Ny285.out, List.length_drop, List.length_take] <;> omega))
                      rw [show ((t274).take ((wrap64 (7 + (l0_4.length : Int))) : Int).toNat).drop (7 : Int).toNat = y285 from Ny285.out.symm] at hr41
                      replace hr41 : Kd.C (Kd.int .u8) _ A41 y285.length y285 := (by rw [hA41]; exact hr41)
                      rw [← hy41, ← hA41, ← hc41] at hcut41
                      have HR288 := Aside0.mk hr41
                      have HC288 := Aside0.mk (show y285.length ≤ c41 from by rw [hy41, hc41]; exact Nat.sub_le_sub_right (Nat.le_trans (by omega) hroom41) _)
                      clear hr41 hC41 hroom41 hi041 hsz41 hc41
                      have KY41 := Aside0.mk hy41
                      have KA41 := Aside0.mk hA41
                      clear hy41 hA41
                      have KL41 := Aside0.mk (show ((wrap64 (7 + (l0_4.length : Int))) : Int).toNat ≤ t274.length from by omega)
                      have KM41 := Aside0.mk (show 7 ≤ ((wrap64 (7 + (l0_4.length : Int))) : Int).toNat from by omega)
                      replace q41 := eq_true q41
                      refine start_ (n := 71) (S := fun w' => w'.cell? ⟨gb272, 0, none⟩ = some (.int .i64 a0_0) ∧ w'.cell? ⟨gb272, 1, none⟩ = some (.int .i64 a0_1) ∧ w'.cell? ⟨gb272, 2, none⟩ = some (.int .i64 a0_2) ∧ w'.cell? ⟨gb272, 3, none⟩ = some (.int .i64 a0_3) ∧ w'.cell? ⟨gb272, 4, none⟩ = some (.slice A0_4 l0_4.length c0_4) ∧ w'.cell? ad278 = some (.int .u8 (rd t274 0)) ∧ w'.cell? ⟨ad278.block, ad278.off + 1, none⟩ = some (.int .u8 (rd t274 1)) ∧ w'.cell? ⟨ad278.block, ad278.off + 2, none⟩ = some (.int .u8 (rd t274 2)) ∧ w'.cell? ⟨ad278.block, ad278.off + 3, none⟩ = some (.int .u8 (rd t274 3)) ∧ w'.cell? ⟨ad278.block, ad278.off + 4, none⟩ = some (.int .u8 (rd t274 4)) ∧ w'.cell? ⟨ad278.block, ad278.off + 5, none⟩ = some (.int .u8 (rd t274 5)) ∧ w'.cell? ⟨ad278.block, ad278.off + 6, none⟩ = some (.int .u8 (rd t274 6))) (ds := []) (bu 71 0) (by kernel_rfl) rfl rfl ⟨(blk_cell BK272.out 0).trans rfl, (blk_cell BK272.out 1).trans rfl, (blk_cell BK272.out 2).trans rfl, (blk_cell BK272.out 3).trans rfl, (blk_cell BK272.out 4).trans rfl, hx278_0, hx279_0, hx280_0, hx281_0, hx282_0, hx283_0, hx284_0⟩ (fun hHeld => ?_); refine with_tabW wherrylaw20_FrameFields.tab6 wherrylaw20_FrameFields.bits6 (fun HT_ HW_ => ?_)
                      generalize wc.drew = w39 at HO_3 BK272 HB HR288 hx278_0 hx279_0 hx280_0 hx281_0 hx282_0 hx283_0 hx284_0 hHeld ⊢
                      refine pA 0 30 (bu 71 1) ?_ HT_ rfl rfl (.inl ⟨by rfl, ?_⟩) ?_ ?_ ?_; rotate_left; (focus intro w'; go_simp; with_reducible rfl); rotate_left; (focus simp only [pk]; rfl)
                      refine pA 1 31 (bu 71 2) ?_ HT_ rfl rfl (.inl ⟨by rfl, ?_⟩) ?_ ?_ ?_; rotate_left; (focus intro w'; go_simp; with_reducible rfl); rotate_left; (focus simp only [pk]; rfl)
                      refine pA 4 34 (bm 71 0x13) ?_ HT_ rfl rfl (.inl ⟨by rfl, ?_⟩) ?_ ?_ ?_; rotate_left; (focus intro w'; go_simp; with_reducible rfl); rotate_left; (focus simp only [pk]; rfl)
                      refine tA 2 32 (bm 71 0x17) ?_ HT_ HW_ rfl rfl (.inl ⟨by rfl, ?_⟩) hHeld ?_ ?_ ?_; rotate_left; (focus rintro w' ⟨s0, s1, s2, s3, s4, s5, s6, s7, s8, s9, s10, s11⟩; go_simp; with_reducible rfl); rotate_left; (focus simp only [pk]; rfl)
                      refine pA 3 33 (bu 71 5) ?_ HT_ rfl rfl (.inl ⟨by rfl, ?_⟩) ?_ ?_ ?_; rotate_left; (focus intro w'; go_simp; with_reducible rfl); rotate_left; (focus simp only [pk]; rfl)
                      refine tA 5 35 (bu 71 6) ?_ HT_ HW_ rfl rfl (.inl ⟨by rfl, ?_⟩) hHeld ?_ ?_ ?_; rotate_left; (focus rintro w' ⟨s0, s1, s2, s3, s4, s5, s6, s7, s8, s9, s10, s11⟩; go_simp; with_reducible rfl); rotate_left; (focus simp only [pk]; rfl)
                      refine pA 6 36 (bu 71 7) ?_ HT_ rfl rfl (.inl ⟨by rfl, ?_⟩) ?_ ?_ ?_; rotate_left; (focus intro w'; go_simp; with_reducible rfl); rotate_left; (focus simp only [pk]; rfl)
                      refine pA 7 37 (bu 71 8) ?_ HT_ rfl rfl (.inl ⟨by rfl, ?_⟩) ?_ ?_ ?_; rotate_left; (focus intro w'; go_simp; with_reducible rfl); rotate_left; (focus simp only [pk]; rfl)
                      refine pA 8 38 (bu 71 9) ?_ HT_ rfl rfl (.inl ⟨by rfl, ?_⟩) ?_ ?_ ?_; rotate_left; (focus intro w'; go_simp; with_reducible rfl); rotate_left; (focus simp only [pk]; rfl)
                      refine pA 9 39 (bu 71 10) ?_ HT_ rfl rfl (.inl ⟨by rfl, ?_⟩) ?_ ?_ ?_; rotate_left; (focus intro w'; go_simp; with_reducible rfl); rotate_left; (focus simp only [pk]; rfl)
                      refine pA 13 43 (bm 71 0x23ff) ?_ HT_ rfl rfl (.inl ⟨by rfl, ?_⟩) ?_ ?_ ?_; rotate_left; (focus intro w'; go_simp; with_reducible rfl); rotate_left; (focus simp only [pk]; rfl)
                      refine pA 14 44 (bm 71 0x63ff) ?_ HT_ rfl rfl (.inl ⟨by rfl, ?_⟩) ?_ ?_ ?_; rotate_left; (focus intro w'; go_simp; with_reducible rfl); rotate_left; (focus simp only [pk]; rfl)
                      refine pA 18 48 (bm 71 0x463ff) ?_ HT_ rfl rfl (.inl ⟨by rfl, ?_⟩) ?_ ?_ ?_; rotate_left; (focus intro w'; go_simp; with_reducible rfl); rotate_left; (focus simp only [pk]; rfl)
                      refine tA 10 40 (bm 71 0x467ff) ?_ HT_ HW_ rfl rfl (.inl ⟨by rfl, ?_⟩) hHeld ?_ ?_ ?_; rotate_left; (focus rintro w' ⟨s0, s1, s2, s3, s4, s5, s6, s7, s8, s9, s10, s11⟩; go_simp; with_reducible rfl); rotate_left; (focus simp only [pk]; rfl)
                      refine pA 11 41 (bm 71 0x46fff) ?_ HT_ rfl rfl (.inl ⟨by rfl, ?_⟩) ?_ ?_ ?_; rotate_left; (focus intro w'; go_simp; with_reducible rfl); rotate_left; (focus simp only [pk]; rfl)
                      refine pA 12 42 (bm 71 0x47fff) ?_ HT_ rfl rfl (.inl ⟨by rfl, ?_⟩) ?_ ?_ ?_; rotate_left; (focus intro w'; go_simp; with_reducible rfl); rotate_left; (focus simp only [pk]; rfl)
                      refine tA 15 45 (bm 71 0x4ffff) ?_ HT_ HW_ rfl rfl (.inl ⟨by rfl, ?_⟩) hHeld ?_ ?_ ?_; rotate_left; (focus rintro w' ⟨s0, s1, s2, s3, s4, s5, s6, s7, s8, s9, s10, s11⟩; go_simp; with_reducible rfl); rotate_left; (focus simp only [pk]; rfl)
                      refine pA 16 46 (bm 71 0x5ffff) ?_ HT_ rfl rfl (.inl ⟨by rfl, ?_⟩) ?_ ?_ ?_; rotate_left; (focus intro w'; go_simp; with_reducible rfl); rotate_left; (focus simp only [pk]; rfl)
                      refine pA 17 47 (bu 71 19) ?_ HT_ rfl rfl (.inl ⟨by rfl, ?_⟩) ?_ ?_ ?_; rotate_left; (focus intro w'; go_simp; with_reducible rfl); rotate_left; (focus simp only [pk]; rfl)
                      refine tA 19 49 (bu 71 20) ?_ HT_ HW_ rfl rfl (.inl ⟨by rfl, ?_⟩) hHeld ?_ ?_ ?_; rotate_left; (focus rintro w' ⟨s0, s1, s2, s3, s4, s5, s6, s7, s8, s9, s10, s11⟩; go_simp; with_reducible rfl); rotate_left; (focus simp only [pk]; rfl)
                      refine pA 20 50 (bu 71 21) ?_ HT_ rfl rfl (.inl ⟨by rfl, ?_⟩) ?_ ?_ ?_; rotate_left; (focus intro w'; go_simp; with_reducible rfl); rotate_left; (focus simp only [pk]; rfl)
                      refine pA 21 51 (bu 71 22) ?_ HT_ rfl rfl (.inl ⟨by rfl, ?_⟩) ?_ ?_ ?_; rotate_left; (focus intro w'; go_simp; with_reducible rfl); rotate_left; (focus simp only [pk]; rfl)
                      refine pA 22 52 (bu 71 23) ?_ HT_ rfl rfl (.inl ⟨by rfl, ?_⟩) ?_ ?_ ?_; rotate_left; (focus intro w'; go_simp; with_reducible rfl); rotate_left; (focus simp only [pk]; rfl)
                      refine pA 23 53 (bu 71 24) ?_ HT_ rfl rfl (.inl ⟨by rfl, ?_⟩) ?_ ?_ ?_; rotate_left; (focus intro w'; go_simp; with_reducible rfl); rotate_left; (focus simp only [pk]; rfl)
                      refine pA 24 54 (bu 71 25) ?_ HT_ rfl rfl (.inl ⟨by rfl, ?_⟩) ?_ ?_ ?_; rotate_left; (focus intro w'; go_simp; with_reducible rfl); rotate_left; (focus simp only [pk]; rfl)
                      refine pA 28 58 (bm 71 0x11ffffff) ?_ HT_ rfl rfl (.inl ⟨by rfl, ?_⟩) ?_ ?_ ?_; rotate_left; (focus intro w'; go_simp; with_reducible rfl); rotate_left; (focus simp only [pk]; rfl)
                      refine pA 29 59 (bm 71 0x31ffffff) ?_ HT_ rfl rfl (.inl ⟨by rfl, ?_⟩) ?_ ?_ ?_; rotate_left; (focus intro w'; go_simp; with_reducible rfl); rotate_left; (focus simp only [pk]; rfl)
                      refine pA 33 63 (bm 71 0x231ffffff) ?_ HT_ rfl rfl (.inl ⟨by rfl, ?_⟩) ?_ ?_ ?_; rotate_left; (focus intro w'; go_simp; with_reducible rfl); rotate_left; (focus simp only [pk]; rfl)
                      refine tA 25 55 (bm 71 0x233ffffff) ?_ HT_ HW_ rfl rfl (.inl ⟨by rfl, ?_⟩) hHeld ?_ ?_ ?_; rotate_left; (focus rintro w' ⟨s0, s1, s2, s3, s4, s5, s6, s7, s8, s9, s10, s11⟩; go_simp; with_reducible rfl); rotate_left; (focus simp only [pk]; rfl)
                      refine pA 26 56 (bm 71 0x237ffffff) ?_ HT_ rfl rfl (.inl ⟨by rfl, ?_⟩) ?_ ?_ ?_; rotate_left; (focus intro w'; go_simp; with_reducible rfl); rotate_left; (focus simp only [pk]; rfl)
                      refine pA 27 57 (bm 71 0x23fffffff) ?_ HT_ rfl rfl (.inl ⟨by rfl, ?_⟩) ?_ ?_ ?_; rotate_left; (focus intro w'; go_simp; with_reducible rfl); rotate_left; (focus simp only [pk]; rfl)
                      refine tA 30 60 (bm 71 0x27fffffff) ?_ HT_ HW_ rfl rfl (.inl ⟨by rfl, ?_⟩) hHeld ?_ ?_ ?_; rotate_left; (focus rintro w' ⟨s0, s1, s2, s3, s4, s5, s6, s7, s8, s9, s10, s11⟩; go_simp; with_reducible rfl); rotate_left; (focus simp only [pk]; rfl)
                      refine pA 31 61 (bm 71 0x2ffffffff) ?_ HT_ rfl rfl (.inl ⟨by rfl, ?_⟩) ?_ ?_ ?_; rotate_left; (focus intro w'; go_simp; with_reducible rfl); rotate_left; (focus simp only [pk]; rfl)
                      refine pA 32 62 (bu 71 34) ?_ HT_ rfl rfl (.inl ⟨by rfl, ?_⟩) ?_ ?_ ?_; rotate_left; (focus intro w'; go_simp; with_reducible rfl); rotate_left; (focus simp only [pk]; rfl)
                      refine tA 34 64 (bu 71 35) ?_ HT_ HW_ rfl rfl (.inl ⟨by rfl, ?_⟩) hHeld ?_ ?_ ?_; rotate_left; (focus rintro w' ⟨s0, s1, s2, s3, s4, s5, s6, s7, s8, s9, s10, s11⟩; go_simp; with_reducible rfl); rotate_left; (focus simp only [pk]; rfl)
                      refine pA 35 65 (bu 71 36) ?_ HT_ rfl rfl (.inl ⟨by rfl, ?_⟩) ?_ ?_ ?_; rotate_left; (focus intro w'; go_simp; with_reducible rfl); rotate_left; (focus simp only [pk]; rfl)
                      refine pA 36 66 (bu 71 37) ?_ HT_ rfl rfl (.inl ⟨by rfl, ?_⟩) ?_ ?_ ?_; rotate_left; (focus intro w'; go_simp; with_reducible rfl); rotate_left; (focus simp only [pk]; rfl)
                      refine pA 37 67 (bu 71 38) ?_ HT_ rfl rfl (.inl ⟨by rfl, ?_⟩) ?_ ?_ ?_; rotate_left; (focus intro w'; go_simp; with_reducible rfl); rotate_left; (focus simp only [pk]; rfl)
                      refine pA 38 68 (bu 71 39) ?_ HT_ rfl rfl (.inl ⟨by rfl, ?_⟩) ?_ ?_ ?_; rotate_left; (focus intro w'; go_simp; with_reducible rfl); rotate_left; (focus simp only [pk]; rfl)
                      refine pA 39 69 (bu 71 40) ?_ HT_ rfl rfl (.inl ⟨by rfl, ?_⟩) ?_ ?_ ?_; rotate_left; (focus intro w'; go_simp; with_reducible rfl); rotate_left; (focus simp only [pk]; rfl)
                      refine pA 42 72 (bm 71 0x4ffffffffff) ?_ HT_ rfl rfl (.inl ⟨by rfl, ?_⟩) ?_ ?_ ?_; rotate_left; (focus intro w'; go_simp; with_reducible rfl); rotate_left; (focus simp only [pk]; rfl)
                      refine tA 40 70 (bm 71 0x5ffffffffff) ?_ HT_ HW_ rfl rfl (.inl ⟨by rfl, ?_⟩) hHeld ?_ ?_ ?_; rotate_left; (focus rintro w' ⟨s0, s1, s2, s3, s4, s5, s6, s7, s8, s9, s10, s11⟩; go_simp; with_reducible rfl); rotate_left; (focus simp only [pk]; rfl)
                      refine pA 41 71 (bu 71 43) ?_ HT_ rfl rfl (.inl ⟨by rfl, ?_⟩) ?_ ?_ ?_; rotate_left; (focus intro w'; go_simp; with_reducible rfl); rotate_left; (focus simp only [pk]; rfl)
                      refine tA 43 73 (bu 71 44) ?_ HT_ HW_ rfl rfl (.inl ⟨by rfl, ?_⟩) hHeld ?_ ?_ ?_; rotate_left; (focus rintro w' ⟨s0, s1, s2, s3, s4, s5, s6, s7, s8, s9, s10, s11⟩; go_simp; with_reducible rfl); rotate_left; (focus simp only [pk]; rfl)
                      refine pA 44 74 (bu 71 45) ?_ HT_ rfl rfl (.inl ⟨by rfl, ?_⟩) ?_ ?_ ?_; rotate_left; (focus intro w'; go_simp; with_reducible rfl); rotate_left; (focus simp only [pk]; rfl)
                      refine pA 45 75 (bu 71 46) ?_ HT_ rfl rfl (.inl ⟨by rfl, ?_⟩) ?_ ?_ ?_; rotate_left; (focus intro w'; go_simp; with_reducible rfl); rotate_left; (focus simp only [pk]; rfl)
                      refine pA 46 76 (bu 71 47) ?_ HT_ rfl rfl (.inl ⟨by rfl, ?_⟩) ?_ ?_ ?_; rotate_left; (focus intro w'; go_simp; with_reducible rfl); rotate_left; (focus simp only [pk]; rfl)
                      refine pA 47 77 (bu 71 48) ?_ HT_ rfl rfl (.inl ⟨by rfl, ?_⟩) ?_ ?_ ?_; rotate_left; (focus intro w'; go_simp; with_reducible rfl); rotate_left; (focus simp only [pk]; rfl)
                      refine pA 48 78 (bu 71 49) ?_ HT_ rfl rfl (.inl ⟨by rfl, ?_⟩) ?_ ?_ ?_; rotate_left; (focus intro w'; go_simp; with_reducible rfl); rotate_left; (focus simp only [pk]; rfl)
                      refine pA 51 81 (bm 71 0x9ffffffffffff) ?_ HT_ rfl rfl (.inl ⟨by rfl, ?_⟩) ?_ ?_ ?_; rotate_left; (focus intro w'; go_simp; with_reducible rfl); rotate_left; (focus simp only [pk]; rfl)
                      refine tA 49 79 (bm 71 0xbffffffffffff) ?_ HT_ HW_ rfl rfl (.inl ⟨by rfl, ?_⟩) hHeld ?_ ?_ ?_; rotate_left; (focus rintro w' ⟨s0, s1, s2, s3, s4, s5, s6, s7, s8, s9, s10, s11⟩; go_simp; with_reducible rfl); rotate_left; (focus simp only [pk]; rfl)
                      refine pA 50 80 (bu 71 52) ?_ HT_ rfl rfl (.inl ⟨by rfl, ?_⟩) ?_ ?_ ?_; rotate_left; (focus intro w'; go_simp; with_reducible rfl); rotate_left; (focus simp only [pk]; rfl)
                      refine tA 52 82 (bu 71 53) ?_ HT_ HW_ rfl rfl (.inl ⟨by rfl, ?_⟩) hHeld ?_ ?_ ?_; rotate_left; (focus rintro w' ⟨s0, s1, s2, s3, s4, s5, s6, s7, s8, s9, s10, s11⟩; go_simp; with_reducible rfl); rotate_left; (focus simp only [pk]; rfl)
                      refine pA 53 83 (bu 71 54) ?_ HT_ rfl rfl (.inl ⟨by rfl, ?_⟩) ?_ ?_ ?_; rotate_left; (focus intro w'; go_simp; with_reducible rfl); rotate_left; (focus simp only [pk]; rfl)
                      refine pA 54 84 (bu 71 55) ?_ HT_ rfl rfl (.inl ⟨by rfl, ?_⟩) ?_ ?_ ?_; rotate_left; (focus intro w'; go_simp; with_reducible rfl); rotate_left; (focus simp only [pk]; rfl)
                      refine pA 55 85 (bu 71 56) ?_ HT_ rfl rfl (.inl ⟨by rfl, ?_⟩) ?_ ?_ ?_; rotate_left; (focus intro w'; go_simp; with_reducible rfl); rotate_left; (focus simp only [pk]; rfl)
                      refine pA 56 86 (bu 71 57) ?_ HT_ rfl rfl (.inl ⟨by rfl, ?_⟩) ?_ ?_ ?_; rotate_left; (focus intro w'; go_simp; with_reducible rfl); rotate_left; (focus simp only [pk]; rfl)
                      refine pA 57 87 (bu 71 58) ?_ HT_ rfl rfl (.inl ⟨by rfl, ?_⟩) ?_ ?_ ?_; rotate_left; (focus intro w'; go_simp; with_reducible rfl); rotate_left; (focus simp only [pk]; rfl)
                      refine pA 58 88 (bu 71 59) ?_ HT_ rfl rfl (.inl ⟨by rfl, ?_⟩) ?_ ?_ ?_; rotate_left; (focus intro w'; go_simp; with_reducible rfl); rotate_left; (focus simp only [pk]; rfl)
                      refine pA 63 93 (bm 71 0x87ffffffffffffff) ?_ HT_ rfl rfl (.inl ⟨by rfl, ?_⟩) ?_ ?_ ?_; rotate_left; (focus intro w'; go_simp; with_reducible rfl); rotate_left; (focus simp only [pk]; rfl)
                      refine tA 59 89 (bm 71 0x8fffffffffffffff) ?_ HT_ HW_ rfl rfl (.inl ⟨by rfl, ?_⟩) hHeld ?_ ?_ ?_; rotate_left; (focus rintro w' ⟨s0, s1, s2, s3, s4, s5, s6, s7, s8, s9, s10, s11⟩; go_simp; with_reducible rfl); rotate_left; (focus simp only [pk]; rfl)
                      refine pA 60 90 (bm 71 0x9fffffffffffffff) ?_ HT_ rfl rfl (.inl ⟨by rfl, ?_⟩) ?_ ?_ ?_; rotate_left; (focus intro w'; go_simp; with_reducible rfl); rotate_left; (focus simp only [pk]; rfl)
                      refine pA 61 91 (bm 71 0xbfffffffffffffff) ?_ HT_ rfl rfl (.inl ⟨by rfl, ?_⟩) ?_ ?_ ?_; rotate_left; (focus intro w'; go_simp; with_reducible rfl); rotate_left; (focus simp only [pk]; rfl)
                      refine pA 62 92 (bu 71 64) ?_ HT_ rfl rfl (.inl ⟨by rfl, ?_⟩) ?_ ?_ ?_; rotate_left; (focus intro w'; go_simp; with_reducible rfl); rotate_left; (focus simp only [pk]; rfl)
                      refine tA 64 94 (bu 71 65) ?_ HT_ HW_ rfl rfl (.inl ⟨by rfl, ?_⟩) hHeld ?_ ?_ ?_; rotate_left; (focus rintro w' ⟨s0, s1, s2, s3, s4, s5, s6, s7, s8, s9, s10, s11⟩; go_simp; with_reducible rfl); rotate_left; (focus simp only [pk]; rfl)
                      refine one_ (i := 65) (N := some 95) (bu 71 66) rfl rfl (one_of HT_.out (by kernel_rfl)) (by decide) (fun K hK => ?_)
                      refine goes_ Try.func13 (by kernel_rfl) rfl #[.slice A41 y285.length c41, .slice A0_4 l0_4.length c0_4] (by rfl) rfl rfl (by (try simp only [List.map_toArray, List.map_cons, List.map_nil]); first | done | rfl | (simp only [List.length_drop, List.length_take]; rfl) | (go_simp; done) | (go_simp; rfl)) ?_
                      with_reducible refine (wherrykeep_Bytes.calls kj10 _ _ y285 _ _ l0_4 false _ ?side1 ?side2 ?side3 ?side4 A32.out).mono ?_
                      (case side1 => repeat (first | exact (by first | with_reducible exact HR288.out | exact sC HR288.out) | (with_reducible refine Kd.C_alloc ?_ _) | (with_reducible refine Kd.C_drewN ?_ _) | (with_reducible refine Kd.C_drew ?_)))
                      (case side2 => exact HC288.out)
                      (case side3 => first | with_reducible exact (Kd.C_below HR0_4.out HB.out) | exact sC ((Kd.C_below HR0_4.out HB.out)))
                      (case side4 => exact HC0_4.out)
                      rintro e w' ⟨rfl, ⟨nd, rfl⟩⟩
                      refine ⟨_, rfl, ?_⟩
                      refine hK.out _ _ ⟨(blk_cell BK272.out 0).trans rfl, (blk_cell BK272.out 1).trans rfl, (blk_cell BK272.out 2).trans rfl, (blk_cell BK272.out 3).trans rfl, (blk_cell BK272.out 4).trans rfl, hHeld.2.2.2.2.2.1, hHeld.2.2.2.2.2.2.1, hHeld.2.2.2.2.2.2.2.1, hHeld.2.2.2.2.2.2.2.2.1, hHeld.2.2.2.2.2.2.2.2.2.1, hHeld.2.2.2.2.2.2.2.2.2.2.1, hHeld.2.2.2.2.2.2.2.2.2.2.2⟩ (fun hHeld => ?_)
                      clear hK K
                      refine norm_ (a' := ?_) ?_ ?_
                      rotate_left
                      ·show Act.put _ (some 95) _ = _
                       simp only [Act.put, List.setIfInBounds_toArray, List.set_cons_zero, List.set_cons_succ, i64_w, i32_w]
                       rfl
                      refine pA 66 96 (bu 71 67) ?_ HT_ rfl rfl (.inl ⟨by rfl, ?_⟩) ?_ ?_ ?_; rotate_left; (focus intro w'; go_simp; with_reducible rfl); rotate_left; (focus simp only [pk]; rfl)
                      refine pA 67 97 (bu 71 68) ?_ HT_ rfl rfl (.inl ⟨by rfl, ?_⟩) ?_ ?_ ?_; rotate_left; (focus intro w'; go_simp; with_reducible rfl); rotate_left; (focus simp only [pk]; rfl)
                      refine pU 68 98 (bu 71 69) HT_ ?_ ?_ ?_; rotate_left; (focus simp only [pk]; rfl)
                      refine pA 69 99 (bu 71 70) ?_ HT_ rfl rfl (.inl ⟨by rfl, ?_⟩) ?_ ?_ ?_; rotate_left; (focus intro w'; go_simp; with_reducible rfl); rotate_left; (focus simp only [pk]; rfl)
                      refine pA 70 2 (bu 71 71) ?_ HT_ rfl rfl (.inl ⟨by rfl, ?_⟩) ?_ ?_ ?_; rotate_left; (focus intro w'; go_simp; with_reducible rfl); rotate_left; (focus simp only [pk]; rfl)
                      refine done_ (done_of HT_.out (by kernel_rfl)) ?_
                      try go_wp2
                      go_ret
                      exact ⟨by first | rfl | (simp [errW_none, errW_some] <;> rfl) | (simp [*, errW_none, errW_some] <;> rfl), by repeat (first | (with_reducible first | exact HB.out | apply b1 | apply b2 | apply b3 | refine below_set ?_ GE272.out) | exact HB.out)⟩
                    ·rw [if_neg c31] at H
                     exact absurd H (by simp)
                   ·rw [if_neg c30] at H
                    exact absurd H (by simp)
                  ·rw [if_neg c29] at H
                   have c29b0 : ((wrap64 (rd t274 6)) == (l0_4.length : Int)) = false := beq_eq_false_iff_ne.mpr c29
                   have c29b1 : ((wrap64 (rd t274 6)) != (l0_4.length : Int)) = true := bne_iff_ne.mpr c29
                   obtain rfl := Option.some.inj H
                   try go_wp2
                   have n0_ := Aside0.mk (Kd.R_drew HO_3.out)
                   have n1_ := Aside0.mk (blk_drew BK272.out)
                   have n2_ := Aside0.mk (below_drew1 HB.out)
                   clear HO_3
                   clear BK272
                   clear HB
                   have HO_3 := n0_
                   have BK272 := n1_
                   have HB := n2_
                   clear n0_ n1_ n2_
                   obtain ⟨Ao43, co43, eo43⟩ := Kd.R_slice HO_3.out
                   (first | subst eo43 | (injection eo43 with f1_ f2_ f3_; have f4_ := f1_.symm; have f5_ := f3_.symm; clear f1_ f2_ f3_; subst f4_; subst f5_))
                   have p278 : 0 ≤ (0 : Int) := (by omega)
                   have q278 : 0 < (t274.length : Int) := of_decide_eq_true (by first | (with_reducible assumption) | assumption)
                   obtain ⟨ad278, e278, hx278_0⟩ := Kd.at_int (Kd.R_reads' HO_3.out).2.2 0 p278 q278
                   cases e278
                   have qi278 : (0 < t274.length) = True := eq_true (by omega)
                   (try rw [show ((0 : Int)).toNat = 0 from rfl] at hx278_0)
                   (try rw [Addr.add_zero'] at hx278_0)
                   replace p278 := eq_true p278
                   replace q278 := eq_true q278
                   have p279 : 0 ≤ (1 : Int) := (by omega)
                   have q279 : 1 < (t274.length : Int) := of_decide_eq_true (by first | (with_reducible assumption) | assumption)
                   obtain ⟨ad279, e279, hx279_0⟩ := Kd.at_int (Kd.R_reads' HO_3.out).2.2 1 p279 q279
                   obtain rfl : ad278 = ad279 := (by injection e279)
                   (try simp only [show (1 : Int).toNat = 1 from rfl, Nat.reduceMul, Nat.reduceEqDiff, Go.Addr.add, ↓reduceIte] at hx279_0)
                   have qi279 : (1 < t274.length) = True := eq_true (by omega)
                   (try rw [show ((1 : Int)).toNat = 1 from rfl] at hx279_0)
                   replace p279 := eq_true p279
                   replace q279 := eq_true q279
                   have p280 : 0 ≤ (2 : Int) := (by omega)
                   have q280 : 2 < (t274.length : Int) := of_decide_eq_true (by first | (with_reducible assumption) | assumption)
                   obtain ⟨ad280, e280, hx280_0⟩ := Kd.at_int (Kd.R_reads' HO_3.out).2.2 2 p280 q280
                   obtain rfl : ad278 = ad280 := (by injection e280)
                   (try simp only [show (2 : Int).toNat = 2 from rfl, Nat.reduceMul, Nat.reduceEqDiff, Go.Addr.add, ↓reduceIte] at hx280_0)
                   have qi280 : (2 < t274.length) = True := eq_true (by omega)
                   (try rw [show ((2 : Int)).toNat = 2 from rfl] at hx280_0)
                   replace p280 := eq_true p280
                   replace q280 := eq_true q280
                   have p281 : 0 ≤ (3 : Int) := (by omega)
                   have q281 : 3 < (t274.length : Int) := of_decide_eq_true (by first | (with_reducible assumption) | assumption)
                   obtain ⟨ad281, e281, hx281_0⟩ := Kd.at_int (Kd.R_reads' HO_3.out).2.2 3 p281 q281
                   obtain rfl : ad278 = ad281 := (by injection e281)
                   (try simp only [show (3 : Int).toNat = 3 from rfl, Nat.reduceMul, Nat.reduceEqDiff, Go.Addr.add, ↓reduceIte] at hx281_0)
                   have qi281 : (3 < t274.length) = True := eq_true (by omega)
                   (try rw [show ((3 : Int)).toNat = 3 from rfl] at hx281_0)
                   replace p281 := eq_true p281
                   replace q281 := eq_true q281
                   have p282 : 0 ≤ (4 : Int) := (by omega)
                   have q282 : 4 < (t274.length : Int) := of_decide_eq_true (by first | (with_reducible assumption) | assumption)
                   obtain ⟨ad282, e282, hx282_0⟩ := Kd.at_int (Kd.R_reads' HO_3.out).2.2 4 p282 q282
                   obtain rfl : ad278 = ad282 := (by injection e282)
                   (try simp only [show (4 : Int).toNat = 4 from rfl, Nat.reduceMul, Nat.reduceEqDiff, Go.Addr.add, ↓reduceIte] at hx282_0)
                   have qi282 : (4 < t274.length) = True := eq_true (by omega)
                   (try rw [show ((4 : Int)).toNat = 4 from rfl] at hx282_0)
                   replace p282 := eq_true p282
                   replace q282 := eq_true q282
                   have p283 : 0 ≤ (5 : Int) := (by omega)
                   have q283 : 5 < (t274.length : Int) := of_decide_eq_true (by first | (with_reducible assumption) | assumption)
                   obtain ⟨ad283, e283, hx283_0⟩ := Kd.at_int (Kd.R_reads' HO_3.out).2.2 5 p283 q283
                   obtain rfl : ad278 = ad283 := (by injection e283)
                   (try simp only [show (5 : Int).toNat = 5 from rfl, Nat.reduceMul, Nat.reduceEqDiff, Go.Addr.add, ↓reduceIte] at hx283_0)
                   have qi283 : (5 < t274.length) = True := eq_true (by omega)
                   (try rw [show ((5 : Int)).toNat = 5 from rfl] at hx283_0)
                   replace p283 := eq_true p283
                   replace q283 := eq_true q283
                   have p284 : 0 ≤ (6 : Int) := (by omega)
                   have q284 : 6 < (t274.length : Int) := of_decide_eq_true (by first | (with_reducible assumption) | assumption)
                   obtain ⟨ad284, e284, hx284_0⟩ := Kd.at_int (Kd.R_reads' HO_3.out).2.2 6 p284 q284
                   obtain rfl : ad278 = ad284 := (by injection e284)
                   (try simp only [show (6 : Int).toNat = 6 from rfl, Nat.reduceMul, Nat.reduceEqDiff, Go.Addr.add, ↓reduceIte] at hx284_0)
                   have qi284 : (6 < t274.length) = True := eq_true (by omega)
                   (try rw [show ((6 : Int)).toNat = 6 from rfl] at hx284_0)
                   replace p284 := eq_true p284
                   replace q284 := eq_true q284
                   refine start_ (n := 71) (S := fun w' => w'.cell? ⟨gb272, 0, none⟩ = some (.int .i64 a0_0) ∧ w'.cell? ⟨gb272, 1, none⟩ = some (.int .i64 a0_1) ∧ w'.cell? ⟨gb272, 2, none⟩ = some (.int .i64 a0_2) ∧ w'.cell? ⟨gb272, 3, none⟩ = some (.int .i64 a0_3) ∧ w'.cell? ⟨gb272, 4, none⟩ = some (.slice A0_4 l0_4.length c0_4) ∧ w'.cell? ad278 = some (.int .u8 (rd t274 0)) ∧ w'.cell? ⟨ad278.block, ad278.off + 1, none⟩ = some (.int .u8 (rd t274 1)) ∧ w'.cell? ⟨ad278.block, ad278.off + 2, none⟩ = some (.int .u8 (rd t274 2)) ∧ w'.cell? ⟨ad278.block, ad278.off + 3, none⟩ = some (.int .u8 (rd t274 3)) ∧ w'.cell? ⟨ad278.block, ad278.off + 4, none⟩ = some (.int .u8 (rd t274 4)) ∧ w'.cell? ⟨ad278.block, ad278.off + 5, none⟩ = some (.int .u8 (rd t274 5)) ∧ w'.cell? ⟨ad278.block, ad278.off + 6, none⟩ = some (.int .u8 (rd t274 6))) (ds := []) (bu 71 0) (by kernel_rfl) rfl rfl ⟨(blk_cell BK272.out 0).trans rfl, (blk_cell BK272.out 1).trans rfl, (blk_cell BK272.out 2).trans rfl, (blk_cell BK272.out 3).trans rfl, (blk_cell BK272.out 4).trans rfl, hx278_0, hx279_0, hx280_0, hx281_0, hx282_0, hx283_0, hx284_0⟩ (fun hHeld => ?_); refine with_tabW wherrylaw20_FrameFields.tab6 wherrylaw20_FrameFields.bits6 (fun HT_ HW_ => ?_)
                   generalize wc.drew = w42 at HO_3 BK272 HB hx278_0 hx279_0 hx280_0 hx281_0 hx282_0 hx283_0 hx284_0 hHeld ⊢
                   refine pA 0 30 (bu 71 1) ?_ HT_ rfl rfl (.inl ⟨by rfl, ?_⟩) ?_ ?_ ?_; rotate_left; (focus intro w'; go_simp; with_reducible rfl); rotate_left; (focus simp only [pk]; rfl)
                   refine pA 1 31 (bu 71 2) ?_ HT_ rfl rfl (.inl ⟨by rfl, ?_⟩) ?_ ?_ ?_; rotate_left; (focus intro w'; go_simp; with_reducible rfl); rotate_left; (focus simp only [pk]; rfl)
                   refine pA 4 34 (bm 71 0x13) ?_ HT_ rfl rfl (.inl ⟨by rfl, ?_⟩) ?_ ?_ ?_; rotate_left; (focus intro w'; go_simp; with_reducible rfl); rotate_left; (focus simp only [pk]; rfl)
                   refine tA 2 32 (bm 71 0x17) ?_ HT_ HW_ rfl rfl (.inl ⟨by rfl, ?_⟩) hHeld ?_ ?_ ?_; rotate_left; (focus rintro w' ⟨s0, s1, s2, s3, s4, s5, s6, s7, s8, s9, s10, s11⟩; go_simp; with_reducible rfl); rotate_left; (focus simp only [pk]; rfl)
                   refine pA 3 33 (bu 71 5) ?_ HT_ rfl rfl (.inl ⟨by rfl, ?_⟩) ?_ ?_ ?_; rotate_left; (focus intro w'; go_simp; with_reducible rfl); rotate_left; (focus simp only [pk]; rfl)
                   refine tA 5 35 (bu 71 6) ?_ HT_ HW_ rfl rfl (.inl ⟨by rfl, ?_⟩) hHeld ?_ ?_ ?_; rotate_left; (focus rintro w' ⟨s0, s1, s2, s3, s4, s5, s6, s7, s8, s9, s10, s11⟩; go_simp; with_reducible rfl); rotate_left; (focus simp only [pk]; rfl)
                   refine pA 6 36 (bu 71 7) ?_ HT_ rfl rfl (.inl ⟨by rfl, ?_⟩) ?_ ?_ ?_; rotate_left; (focus intro w'; go_simp; with_reducible rfl); rotate_left; (focus simp only [pk]; rfl)
                   refine pA 7 37 (bu 71 8) ?_ HT_ rfl rfl (.inl ⟨by rfl, ?_⟩) ?_ ?_ ?_; rotate_left; (focus intro w'; go_simp; with_reducible rfl); rotate_left; (focus simp only [pk]; rfl)
                   refine pA 8 38 (bu 71 9) ?_ HT_ rfl rfl (.inl ⟨by rfl, ?_⟩) ?_ ?_ ?_; rotate_left; (focus intro w'; go_simp; with_reducible rfl); rotate_left; (focus simp only [pk]; rfl)
                   refine pA 9 39 (bu 71 10) ?_ HT_ rfl rfl (.inl ⟨by rfl, ?_⟩) ?_ ?_ ?_; rotate_left; (focus intro w'; go_simp; with_reducible rfl); rotate_left; (focus simp only [pk]; rfl)
                   refine pA 13 43 (bm 71 0x23ff) ?_ HT_ rfl rfl (.inl ⟨by rfl, ?_⟩) ?_ ?_ ?_; rotate_left; (focus intro w'; go_simp; with_reducible rfl); rotate_left; (focus simp only [pk]; rfl)
                   refine pA 14 44 (bm 71 0x63ff) ?_ HT_ rfl rfl (.inl ⟨by rfl, ?_⟩) ?_ ?_ ?_; rotate_left; (focus intro w'; go_simp; with_reducible rfl); rotate_left; (focus simp only [pk]; rfl)
                   refine pA 18 48 (bm 71 0x463ff) ?_ HT_ rfl rfl (.inl ⟨by rfl, ?_⟩) ?_ ?_ ?_; rotate_left; (focus intro w'; go_simp; with_reducible rfl); rotate_left; (focus simp only [pk]; rfl)
                   refine tA 10 40 (bm 71 0x467ff) ?_ HT_ HW_ rfl rfl (.inl ⟨by rfl, ?_⟩) hHeld ?_ ?_ ?_; rotate_left; (focus rintro w' ⟨s0, s1, s2, s3, s4, s5, s6, s7, s8, s9, s10, s11⟩; go_simp; with_reducible rfl); rotate_left; (focus simp only [pk]; rfl)
                   refine pA 11 41 (bm 71 0x46fff) ?_ HT_ rfl rfl (.inl ⟨by rfl, ?_⟩) ?_ ?_ ?_; rotate_left; (focus intro w'; go_simp; with_reducible rfl); rotate_left; (focus simp only [pk]; rfl)
                   refine pA 12 42 (bm 71 0x47fff) ?_ HT_ rfl rfl (.inl ⟨by rfl, ?_⟩) ?_ ?_ ?_; rotate_left; (focus intro w'; go_simp; with_reducible rfl); rotate_left; (focus simp only [pk]; rfl)
                   refine tA 15 45 (bm 71 0x4ffff) ?_ HT_ HW_ rfl rfl (.inl ⟨by rfl, ?_⟩) hHeld ?_ ?_ ?_; rotate_left; (focus rintro w' ⟨s0, s1, s2, s3, s4, s5, s6, s7, s8, s9, s10, s11⟩; go_simp; with_reducible rfl); rotate_left; (focus simp only [pk]; rfl)
                   refine pA 16 46 (bm 71 0x5ffff) ?_ HT_ rfl rfl (.inl ⟨by rfl, ?_⟩) ?_ ?_ ?_; rotate_left; (focus intro w'; go_simp; with_reducible rfl); rotate_left; (focus simp only [pk]; rfl)
                   refine pA 17 47 (bu 71 19) ?_ HT_ rfl rfl (.inl ⟨by rfl, ?_⟩) ?_ ?_ ?_; rotate_left; (focus intro w'; go_simp; with_reducible rfl); rotate_left; (focus simp only [pk]; rfl)
                   refine tA 19 49 (bu 71 20) ?_ HT_ HW_ rfl rfl (.inl ⟨by rfl, ?_⟩) hHeld ?_ ?_ ?_; rotate_left; (focus rintro w' ⟨s0, s1, s2, s3, s4, s5, s6, s7, s8, s9, s10, s11⟩; go_simp; with_reducible rfl); rotate_left; (focus simp only [pk]; rfl)
                   refine pA 20 50 (bu 71 21) ?_ HT_ rfl rfl (.inl ⟨by rfl, ?_⟩) ?_ ?_ ?_; rotate_left; (focus intro w'; go_simp; with_reducible rfl); rotate_left; (focus simp only [pk]; rfl)
                   refine pA 21 51 (bu 71 22) ?_ HT_ rfl rfl (.inl ⟨by rfl, ?_⟩) ?_ ?_ ?_; rotate_left; (focus intro w'; go_simp; with_reducible rfl); rotate_left; (focus simp only [pk]; rfl)
                   refine pA 22 52 (bu 71 23) ?_ HT_ rfl rfl (.inl ⟨by rfl, ?_⟩) ?_ ?_ ?_; rotate_left; (focus intro w'; go_simp; with_reducible rfl); rotate_left; (focus simp only [pk]; rfl)
                   refine pA 23 53 (bu 71 24) ?_ HT_ rfl rfl (.inl ⟨by rfl, ?_⟩) ?_ ?_ ?_; rotate_left; (focus intro w'; go_simp; with_reducible rfl); rotate_left; (focus simp only [pk]; rfl)
                   refine pA 24 54 (bu 71 25) ?_ HT_ rfl rfl (.inl ⟨by rfl, ?_⟩) ?_ ?_ ?_; rotate_left; (focus intro w'; go_simp; with_reducible rfl); rotate_left; (focus simp only [pk]; rfl)
                   refine pA 28 58 (bm 71 0x11ffffff) ?_ HT_ rfl rfl (.inl ⟨by rfl, ?_⟩) ?_ ?_ ?_; rotate_left; (focus intro w'; go_simp; with_reducible rfl); rotate_left; (focus simp only [pk]; rfl)
                   refine pA 29 59 (bm 71 0x31ffffff) ?_ HT_ rfl rfl (.inl ⟨by rfl, ?_⟩) ?_ ?_ ?_; rotate_left; (focus intro w'; go_simp; with_reducible rfl); rotate_left; (focus simp only [pk]; rfl)
                   refine pA 33 63 (bm 71 0x231ffffff) ?_ HT_ rfl rfl (.inl ⟨by rfl, ?_⟩) ?_ ?_ ?_; rotate_left; (focus intro w'; go_simp; with_reducible rfl); rotate_left; (focus simp only [pk]; rfl)
                   refine tA 25 55 (bm 71 0x233ffffff) ?_ HT_ HW_ rfl rfl (.inl ⟨by rfl, ?_⟩) hHeld ?_ ?_ ?_; rotate_left; (focus rintro w' ⟨s0, s1, s2, s3, s4, s5, s6, s7, s8, s9, s10, s11⟩; go_simp; with_reducible rfl); rotate_left; (focus simp only [pk]; rfl)
                   refine pA 26 56 (bm 71 0x237ffffff) ?_ HT_ rfl rfl (.inl ⟨by rfl, ?_⟩) ?_ ?_ ?_; rotate_left; (focus intro w'; go_simp; with_reducible rfl); rotate_left; (focus simp only [pk]; rfl)
                   refine pA 27 57 (bm 71 0x23fffffff) ?_ HT_ rfl rfl (.inl ⟨by rfl, ?_⟩) ?_ ?_ ?_; rotate_left; (focus intro w'; go_simp; with_reducible rfl); rotate_left; (focus simp only [pk]; rfl)
                   refine tA 30 60 (bm 71 0x27fffffff) ?_ HT_ HW_ rfl rfl (.inl ⟨by rfl, ?_⟩) hHeld ?_ ?_ ?_; rotate_left; (focus rintro w' ⟨s0, s1, s2, s3, s4, s5, s6, s7, s8, s9, s10, s11⟩; go_simp; with_reducible rfl); rotate_left; (focus simp only [pk]; rfl)
                   refine pA 31 61 (bm 71 0x2ffffffff) ?_ HT_ rfl rfl (.inl ⟨by rfl, ?_⟩) ?_ ?_ ?_; rotate_left; (focus intro w'; go_simp; with_reducible rfl); rotate_left; (focus simp only [pk]; rfl)
                   refine pA 32 62 (bu 71 34) ?_ HT_ rfl rfl (.inl ⟨by rfl, ?_⟩) ?_ ?_ ?_; rotate_left; (focus intro w'; go_simp; with_reducible rfl); rotate_left; (focus simp only [pk]; rfl)
                   refine tA 34 64 (bu 71 35) ?_ HT_ HW_ rfl rfl (.inl ⟨by rfl, ?_⟩) hHeld ?_ ?_ ?_; rotate_left; (focus rintro w' ⟨s0, s1, s2, s3, s4, s5, s6, s7, s8, s9, s10, s11⟩; go_simp; with_reducible rfl); rotate_left; (focus simp only [pk]; rfl)
                   refine pA 35 65 (bu 71 36) ?_ HT_ rfl rfl (.inl ⟨by rfl, ?_⟩) ?_ ?_ ?_; rotate_left; (focus intro w'; go_simp; with_reducible rfl); rotate_left; (focus simp only [pk]; rfl)
                   refine pA 36 66 (bu 71 37) ?_ HT_ rfl rfl (.inl ⟨by rfl, ?_⟩) ?_ ?_ ?_; rotate_left; (focus intro w'; go_simp; with_reducible rfl); rotate_left; (focus simp only [pk]; rfl)
                   refine pA 37 67 (bu 71 38) ?_ HT_ rfl rfl (.inl ⟨by rfl, ?_⟩) ?_ ?_ ?_; rotate_left; (focus intro w'; go_simp; with_reducible rfl); rotate_left; (focus simp only [pk]; rfl)
                   refine pA 38 68 (bu 71 39) ?_ HT_ rfl rfl (.inl ⟨by rfl, ?_⟩) ?_ ?_ ?_; rotate_left; (focus intro w'; go_simp; with_reducible rfl); rotate_left; (focus simp only [pk]; rfl)
                   refine pA 39 69 (bu 71 40) ?_ HT_ rfl rfl (.inl ⟨by rfl, ?_⟩) ?_ ?_ ?_; rotate_left; (focus intro w'; go_simp; with_reducible rfl); rotate_left; (focus simp only [pk]; rfl)
                   refine pA 42 72 (bm 71 0x4ffffffffff) ?_ HT_ rfl rfl (.inl ⟨by rfl, ?_⟩) ?_ ?_ ?_; rotate_left; (focus intro w'; go_simp; with_reducible rfl); rotate_left; (focus simp only [pk]; rfl)
                   refine tA 40 70 (bm 71 0x5ffffffffff) ?_ HT_ HW_ rfl rfl (.inl ⟨by rfl, ?_⟩) hHeld ?_ ?_ ?_; rotate_left; (focus rintro w' ⟨s0, s1, s2, s3, s4, s5, s6, s7, s8, s9, s10, s11⟩; go_simp; with_reducible rfl); rotate_left; (focus simp only [pk]; rfl)
                   refine pA 41 71 (bu 71 43) ?_ HT_ rfl rfl (.inl ⟨by rfl, ?_⟩) ?_ ?_ ?_; rotate_left; (focus intro w'; go_simp; with_reducible rfl); rotate_left; (focus simp only [pk]; rfl)
                   refine tA 43 73 (bu 71 44) ?_ HT_ HW_ rfl rfl (.inl ⟨by rfl, ?_⟩) hHeld ?_ ?_ ?_; rotate_left; (focus rintro w' ⟨s0, s1, s2, s3, s4, s5, s6, s7, s8, s9, s10, s11⟩; go_simp; with_reducible rfl); rotate_left; (focus simp only [pk]; rfl)
                   refine pA 44 74 (bu 71 45) ?_ HT_ rfl rfl (.inl ⟨by rfl, ?_⟩) ?_ ?_ ?_; rotate_left; (focus intro w'; go_simp; with_reducible rfl); rotate_left; (focus simp only [pk]; rfl)
                   refine pA 45 75 (bu 71 46) ?_ HT_ rfl rfl (.inl ⟨by rfl, ?_⟩) ?_ ?_ ?_; rotate_left; (focus intro w'; go_simp; with_reducible rfl); rotate_left; (focus simp only [pk]; rfl)
                   refine pA 46 76 (bu 71 47) ?_ HT_ rfl rfl (.inl ⟨by rfl, ?_⟩) ?_ ?_ ?_; rotate_left; (focus intro w'; go_simp; with_reducible rfl); rotate_left; (focus simp only [pk]; rfl)
                   refine pA 47 77 (bu 71 48) ?_ HT_ rfl rfl (.inl ⟨by rfl, ?_⟩) ?_ ?_ ?_; rotate_left; (focus intro w'; go_simp; with_reducible rfl); rotate_left; (focus simp only [pk]; rfl)
                   refine pA 48 78 (bu 71 49) ?_ HT_ rfl rfl (.inl ⟨by rfl, ?_⟩) ?_ ?_ ?_; rotate_left; (focus intro w'; go_simp; with_reducible rfl); rotate_left; (focus simp only [pk]; rfl)
                   refine pA 51 81 (bm 71 0x9ffffffffffff) ?_ HT_ rfl rfl (.inl ⟨by rfl, ?_⟩) ?_ ?_ ?_; rotate_left; (focus intro w'; go_simp; with_reducible rfl); rotate_left; (focus simp only [pk]; rfl)
                   refine tA 49 79 (bm 71 0xbffffffffffff) ?_ HT_ HW_ rfl rfl (.inl ⟨by rfl, ?_⟩) hHeld ?_ ?_ ?_; rotate_left; (focus rintro w' ⟨s0, s1, s2, s3, s4, s5, s6, s7, s8, s9, s10, s11⟩; go_simp; with_reducible rfl); rotate_left; (focus simp only [pk]; rfl)
                   refine pA 50 80 (bu 71 52) ?_ HT_ rfl rfl (.inl ⟨by rfl, ?_⟩) ?_ ?_ ?_; rotate_left; (focus intro w'; go_simp; with_reducible rfl); rotate_left; (focus simp only [pk]; rfl)
                   refine tA 52 82 (bu 71 53) ?_ HT_ HW_ rfl rfl (.inl ⟨by rfl, ?_⟩) hHeld ?_ ?_ ?_; rotate_left; (focus rintro w' ⟨s0, s1, s2, s3, s4, s5, s6, s7, s8, s9, s10, s11⟩; go_simp; with_reducible rfl); rotate_left; (focus simp only [pk]; rfl)
                   refine pA 53 83 (bu 71 54) ?_ HT_ rfl rfl (.inl ⟨by rfl, ?_⟩) ?_ ?_ ?_; rotate_left; (focus intro w'; go_simp; with_reducible rfl); rotate_left; (focus simp only [pk]; rfl)
                   refine pA 54 84 (bu 71 55) ?_ HT_ rfl rfl (.inl ⟨by rfl, ?_⟩) ?_ ?_ ?_; rotate_left; (focus intro w'; go_simp; with_reducible rfl); rotate_left; (focus simp only [pk]; rfl)
                   refine pA 55 85 (bu 71 56) ?_ HT_ rfl rfl (.inl ⟨by rfl, ?_⟩) ?_ ?_ ?_; rotate_left; (focus intro w'; go_simp; with_reducible rfl); rotate_left; (focus simp only [pk]; rfl)
                   refine pA 56 86 (bu 71 57) ?_ HT_ rfl rfl (.inl ⟨by rfl, ?_⟩) ?_ ?_ ?_; rotate_left; (focus intro w'; go_simp; with_reducible rfl); rotate_left; (focus simp only [pk]; rfl)
                   refine pU 57 87 (bu 71 58) HT_ ?_ ?_ ?_; rotate_left; (focus simp only [pk]; rfl)
                   refine pU 58 88 (bu 71 59) HT_ ?_ ?_ ?_; rotate_left; (focus simp only [pk]; rfl)
                   refine pU 59 89 (bu 71 60) HT_ ?_ ?_ ?_; rotate_left; (focus simp only [pk]; rfl)
                   refine pU 60 90 (bu 71 61) HT_ ?_ ?_ ?_; rotate_left; (focus simp only [pk]; rfl)
                   refine pU 61 91 (bu 71 62) HT_ ?_ ?_ ?_; rotate_left; (focus simp only [pk]; rfl)
                   refine pU 62 92 (bu 71 63) HT_ ?_ ?_ ?_; rotate_left; (focus simp only [pk]; rfl)
                   refine pU 63 93 (bu 71 64) HT_ ?_ ?_ ?_; rotate_left; (focus simp only [pk]; rfl)
                   refine pU 64 94 (bu 71 65) HT_ ?_ ?_ ?_; rotate_left; (focus simp only [pk]; rfl)
                   refine pU 65 95 (bu 71 66) HT_ ?_ ?_ ?_; rotate_left; (focus simp only [pk]; rfl)
                   refine pA 66 96 (bu 71 67) ?_ HT_ rfl rfl (.inl ⟨by rfl, ?_⟩) ?_ ?_ ?_; rotate_left; (focus intro w'; go_simp; with_reducible rfl); rotate_left; (focus simp only [pk]; rfl)
                   refine pA 67 97 (bu 71 68) ?_ HT_ rfl rfl (.inl ⟨by rfl, ?_⟩) ?_ ?_ ?_; rotate_left; (focus intro w'; go_simp; with_reducible rfl); rotate_left; (focus simp only [pk]; rfl)
                   refine pU 68 98 (bu 71 69) HT_ ?_ ?_ ?_; rotate_left; (focus simp only [pk]; rfl)
                   refine pA 69 99 (bu 71 70) ?_ HT_ rfl rfl (.inl ⟨by rfl, ?_⟩) ?_ ?_ ?_; rotate_left; (focus intro w'; go_simp; with_reducible rfl); rotate_left; (focus simp only [pk]; rfl)
                   refine pA 70 2 (bu 71 71) ?_ HT_ rfl rfl (.inl ⟨by rfl, ?_⟩) ?_ ?_ ?_; rotate_left; (focus intro w'; go_simp; with_reducible rfl); rotate_left; (focus simp only [pk]; rfl)
                   refine done_ (done_of HT_.out (by kernel_rfl)) ?_
                   try go_wp2
                   go_ret
                   exact ⟨by first | rfl | (simp [errW_none, errW_some] <;> rfl) | (simp [*, errW_none, errW_some] <;> rfl), by repeat (first | (with_reducible first | exact HB.out | apply b1 | apply b2 | apply b3 | refine below_set ?_ GE272.out) | exact HB.out)⟩
                 ·rw [if_neg c28] at H
                  exact absurd H (by simp)
                ·rw [if_neg c27] at H
                 have c27b0 : ((wrap64 (rd t274 5)) == a0_3) = false := beq_eq_false_iff_ne.mpr c27
                 have c27b1 : ((wrap64 (rd t274 5)) != a0_3) = true := bne_iff_ne.mpr c27
                 obtain rfl := Option.some.inj H
                 try go_wp2
                 have n0_ := Aside0.mk (Kd.R_drew HO_3.out)
                 have n1_ := Aside0.mk (blk_drew BK272.out)
                 have n2_ := Aside0.mk (below_drew1 HB.out)
                 clear HO_3
                 clear BK272
                 clear HB
                 have HO_3 := n0_
                 have BK272 := n1_
                 have HB := n2_
                 clear n0_ n1_ n2_
                 obtain ⟨Ao45, co45, eo45⟩ := Kd.R_slice HO_3.out
                 (first | subst eo45 | (injection eo45 with f1_ f2_ f3_; have f4_ := f1_.symm; have f5_ := f3_.symm; clear f1_ f2_ f3_; subst f4_; subst f5_))
                 have p278 : 0 ≤ (0 : Int) := (by omega)
                 have q278 : 0 < (t274.length : Int) := of_decide_eq_true (by first | (with_reducible assumption) | assumption)
                 obtain ⟨ad278, e278, hx278_0⟩ := Kd.at_int (Kd.R_reads' HO_3.out).2.2 0 p278 q278
                 cases e278
                 have qi278 : (0 < t274.length) = True := eq_true (by omega)
                 (try rw [show ((0 : Int)).toNat = 0 from rfl] at hx278_0)
                 (try rw [Addr.add_zero'] at hx278_0)
                 replace p278 := eq_true p278
                 replace q278 := eq_true q278
                 have p279 : 0 ≤ (1 : Int) := (by omega)
                 have q279 : 1 < (t274.length : Int) := of_decide_eq_true (by first | (with_reducible assumption) | assumption)
                 obtain ⟨ad279, e279, hx279_0⟩ := Kd.at_int (Kd.R_reads' HO_3.out).2.2 1 p279 q279
                 obtain rfl : ad278 = ad279 := (by injection e279)
                 (try simp only [show (1 : Int).toNat = 1 from rfl, Nat.reduceMul, Nat.reduceEqDiff, Go.Addr.add, ↓reduceIte] at hx279_0)
                 have qi279 : (1 < t274.length) = True := eq_true (by omega)
                 (try rw [show ((1 : Int)).toNat = 1 from rfl] at hx279_0)
                 replace p279 := eq_true p279
                 replace q279 := eq_true q279
                 have p280 : 0 ≤ (2 : Int) := (by omega)
                 have q280 : 2 < (t274.length : Int) := of_decide_eq_true (by first | (with_reducible assumption) | assumption)
                 obtain ⟨ad280, e280, hx280_0⟩ := Kd.at_int (Kd.R_reads' HO_3.out).2.2 2 p280 q280
                 obtain rfl : ad278 = ad280 := (by injection e280)
                 (try simp only [show (2 : Int).toNat = 2 from rfl, Nat.reduceMul, Nat.reduceEqDiff, Go.Addr.add, ↓reduceIte] at hx280_0)
                 have qi280 : (2 < t274.length) = True := eq_true (by omega)
                 (try rw [show ((2 : Int)).toNat = 2 from rfl] at hx280_0)
                 replace p280 := eq_true p280
                 replace q280 := eq_true q280
                 have p281 : 0 ≤ (3 : Int) := (by omega)
                 have q281 : 3 < (t274.length : Int) := of_decide_eq_true (by first | (with_reducible assumption) | assumption)
                 obtain ⟨ad281, e281, hx281_0⟩ := Kd.at_int (Kd.R_reads' HO_3.out).2.2 3 p281 q281
                 obtain rfl : ad278 = ad281 := (by injection e281)
                 (try simp only [show (3 : Int).toNat = 3 from rfl, Nat.reduceMul, Nat.reduceEqDiff, Go.Addr.add, ↓reduceIte] at hx281_0)
                 have qi281 : (3 < t274.length) = True := eq_true (by omega)
                 (try rw [show ((3 : Int)).toNat = 3 from rfl] at hx281_0)
                 replace p281 := eq_true p281
                 replace q281 := eq_true q281
                 have p282 : 0 ≤ (4 : Int) := (by omega)
                 have q282 : 4 < (t274.length : Int) := of_decide_eq_true (by first | (with_reducible assumption) | assumption)
                 obtain ⟨ad282, e282, hx282_0⟩ := Kd.at_int (Kd.R_reads' HO_3.out).2.2 4 p282 q282
                 obtain rfl : ad278 = ad282 := (by injection e282)
                 (try simp only [show (4 : Int).toNat = 4 from rfl, Nat.reduceMul, Nat.reduceEqDiff, Go.Addr.add, ↓reduceIte] at hx282_0)
                 have qi282 : (4 < t274.length) = True := eq_true (by omega)
                 (try rw [show ((4 : Int)).toNat = 4 from rfl] at hx282_0)
                 replace p282 := eq_true p282
                 replace q282 := eq_true q282
                 have p283 : 0 ≤ (5 : Int) := (by omega)
                 have q283 : 5 < (t274.length : Int) := of_decide_eq_true (by first | (with_reducible assumption) | assumption)
                 obtain ⟨ad283, e283, hx283_0⟩ := Kd.at_int (Kd.R_reads' HO_3.out).2.2 5 p283 q283
                 obtain rfl : ad278 = ad283 := (by injection e283)
                 (try simp only [show (5 : Int).toNat = 5 from rfl, Nat.reduceMul, Nat.reduceEqDiff, Go.Addr.add, ↓reduceIte] at hx283_0)
                 have qi283 : (5 < t274.length) = True := eq_true (by omega)
                 (try rw [show ((5 : Int)).toNat = 5 from rfl] at hx283_0)
                 replace p283 := eq_true p283
                 replace q283 := eq_true q283
                 refine start_ (n := 71) (S := fun w' => w'.cell? ⟨gb272, 0, none⟩ = some (.int .i64 a0_0) ∧ w'.cell? ⟨gb272, 1, none⟩ = some (.int .i64 a0_1) ∧ w'.cell? ⟨gb272, 2, none⟩ = some (.int .i64 a0_2) ∧ w'.cell? ⟨gb272, 3, none⟩ = some (.int .i64 a0_3) ∧ w'.cell? ⟨gb272, 4, none⟩ = some (.slice A0_4 l0_4.length c0_4) ∧ w'.cell? ad278 = some (.int .u8 (rd t274 0)) ∧ w'.cell? ⟨ad278.block, ad278.off + 1, none⟩ = some (.int .u8 (rd t274 1)) ∧ w'.cell? ⟨ad278.block, ad278.off + 2, none⟩ = some (.int .u8 (rd t274 2)) ∧ w'.cell? ⟨ad278.block, ad278.off + 3, none⟩ = some (.int .u8 (rd t274 3)) ∧ w'.cell? ⟨ad278.block, ad278.off + 4, none⟩ = some (.int .u8 (rd t274 4)) ∧ w'.cell? ⟨ad278.block, ad278.off + 5, none⟩ = some (.int .u8 (rd t274 5))) (ds := []) (bu 71 0) (by kernel_rfl) rfl rfl ⟨(blk_cell BK272.out 0).trans rfl, (blk_cell BK272.out 1).trans rfl, (blk_cell BK272.out 2).trans rfl, (blk_cell BK272.out 3).trans rfl, (blk_cell BK272.out 4).trans rfl, hx278_0, hx279_0, hx280_0, hx281_0, hx282_0, hx283_0⟩ (fun hHeld => ?_); refine with_tabW wherrylaw20_FrameFields.tab6 wherrylaw20_FrameFields.bits6 (fun HT_ HW_ => ?_)
                 generalize wc.drew = w44 at HO_3 BK272 HB hx278_0 hx279_0 hx280_0 hx281_0 hx282_0 hx283_0 hHeld ⊢
                 refine pA 0 30 (bu 71 1) ?_ HT_ rfl rfl (.inl ⟨by rfl, ?_⟩) ?_ ?_ ?_; rotate_left; (focus intro w'; go_simp; with_reducible rfl); rotate_left; (focus simp only [pk]; rfl)
                 refine pA 1 31 (bu 71 2) ?_ HT_ rfl rfl (.inl ⟨by rfl, ?_⟩) ?_ ?_ ?_; rotate_left; (focus intro w'; go_simp; with_reducible rfl); rotate_left; (focus simp only [pk]; rfl)
                 refine pA 4 34 (bm 71 0x13) ?_ HT_ rfl rfl (.inl ⟨by rfl, ?_⟩) ?_ ?_ ?_; rotate_left; (focus intro w'; go_simp; with_reducible rfl); rotate_left; (focus simp only [pk]; rfl)
                 refine tA 2 32 (bm 71 0x17) ?_ HT_ HW_ rfl rfl (.inl ⟨by rfl, ?_⟩) hHeld ?_ ?_ ?_; rotate_left; (focus rintro w' ⟨s0, s1, s2, s3, s4, s5, s6, s7, s8, s9, s10⟩; go_simp; with_reducible rfl); rotate_left; (focus simp only [pk]; rfl)
                 refine pA 3 33 (bu 71 5) ?_ HT_ rfl rfl (.inl ⟨by rfl, ?_⟩) ?_ ?_ ?_; rotate_left; (focus intro w'; go_simp; with_reducible rfl); rotate_left; (focus simp only [pk]; rfl)
                 refine tA 5 35 (bu 71 6) ?_ HT_ HW_ rfl rfl (.inl ⟨by rfl, ?_⟩) hHeld ?_ ?_ ?_; rotate_left; (focus rintro w' ⟨s0, s1, s2, s3, s4, s5, s6, s7, s8, s9, s10⟩; go_simp; with_reducible rfl); rotate_left; (focus simp only [pk]; rfl)
                 refine pA 6 36 (bu 71 7) ?_ HT_ rfl rfl (.inl ⟨by rfl, ?_⟩) ?_ ?_ ?_; rotate_left; (focus intro w'; go_simp; with_reducible rfl); rotate_left; (focus simp only [pk]; rfl)
                 refine pA 7 37 (bu 71 8) ?_ HT_ rfl rfl (.inl ⟨by rfl, ?_⟩) ?_ ?_ ?_; rotate_left; (focus intro w'; go_simp; with_reducible rfl); rotate_left; (focus simp only [pk]; rfl)
                 refine pA 8 38 (bu 71 9) ?_ HT_ rfl rfl (.inl ⟨by rfl, ?_⟩) ?_ ?_ ?_; rotate_left; (focus intro w'; go_simp; with_reducible rfl); rotate_left; (focus simp only [pk]; rfl)
                 refine pA 9 39 (bu 71 10) ?_ HT_ rfl rfl (.inl ⟨by rfl, ?_⟩) ?_ ?_ ?_; rotate_left; (focus intro w'; go_simp; with_reducible rfl); rotate_left; (focus simp only [pk]; rfl)
                 refine pA 13 43 (bm 71 0x23ff) ?_ HT_ rfl rfl (.inl ⟨by rfl, ?_⟩) ?_ ?_ ?_; rotate_left; (focus intro w'; go_simp; with_reducible rfl); rotate_left; (focus simp only [pk]; rfl)
                 refine pA 14 44 (bm 71 0x63ff) ?_ HT_ rfl rfl (.inl ⟨by rfl, ?_⟩) ?_ ?_ ?_; rotate_left; (focus intro w'; go_simp; with_reducible rfl); rotate_left; (focus simp only [pk]; rfl)
                 refine pA 18 48 (bm 71 0x463ff) ?_ HT_ rfl rfl (.inl ⟨by rfl, ?_⟩) ?_ ?_ ?_; rotate_left; (focus intro w'; go_simp; with_reducible rfl); rotate_left; (focus simp only [pk]; rfl)
                 refine tA 10 40 (bm 71 0x467ff) ?_ HT_ HW_ rfl rfl (.inl ⟨by rfl, ?_⟩) hHeld ?_ ?_ ?_; rotate_left; (focus rintro w' ⟨s0, s1, s2, s3, s4, s5, s6, s7, s8, s9, s10⟩; go_simp; with_reducible rfl); rotate_left; (focus simp only [pk]; rfl)
                 refine pA 11 41 (bm 71 0x46fff) ?_ HT_ rfl rfl (.inl ⟨by rfl, ?_⟩) ?_ ?_ ?_; rotate_left; (focus intro w'; go_simp; with_reducible rfl); rotate_left; (focus simp only [pk]; rfl)
                 refine pA 12 42 (bm 71 0x47fff) ?_ HT_ rfl rfl (.inl ⟨by rfl, ?_⟩) ?_ ?_ ?_; rotate_left; (focus intro w'; go_simp; with_reducible rfl); rotate_left; (focus simp only [pk]; rfl)
                 refine tA 15 45 (bm 71 0x4ffff) ?_ HT_ HW_ rfl rfl (.inl ⟨by rfl, ?_⟩) hHeld ?_ ?_ ?_; rotate_left; (focus rintro w' ⟨s0, s1, s2, s3, s4, s5, s6, s7, s8, s9, s10⟩; go_simp; with_reducible rfl); rotate_left; (focus simp only [pk]; rfl)
                 refine pA 16 46 (bm 71 0x5ffff) ?_ HT_ rfl rfl (.inl ⟨by rfl, ?_⟩) ?_ ?_ ?_; rotate_left; (focus intro w'; go_simp; with_reducible rfl); rotate_left; (focus simp only [pk]; rfl)
                 refine pA 17 47 (bu 71 19) ?_ HT_ rfl rfl (.inl ⟨by rfl, ?_⟩) ?_ ?_ ?_; rotate_left; (focus intro w'; go_simp; with_reducible rfl); rotate_left; (focus simp only [pk]; rfl)
                 refine tA 19 49 (bu 71 20) ?_ HT_ HW_ rfl rfl (.inl ⟨by rfl, ?_⟩) hHeld ?_ ?_ ?_; rotate_left; (focus rintro w' ⟨s0, s1, s2, s3, s4, s5, s6, s7, s8, s9, s10⟩; go_simp; with_reducible rfl); rotate_left; (focus simp only [pk]; rfl)
                 refine pA 20 50 (bu 71 21) ?_ HT_ rfl rfl (.inl ⟨by rfl, ?_⟩) ?_ ?_ ?_; rotate_left; (focus intro w'; go_simp; with_reducible rfl); rotate_left; (focus simp only [pk]; rfl)
                 refine pA 21 51 (bu 71 22) ?_ HT_ rfl rfl (.inl ⟨by rfl, ?_⟩) ?_ ?_ ?_; rotate_left; (focus intro w'; go_simp; with_reducible rfl); rotate_left; (focus simp only [pk]; rfl)
                 refine pA 22 52 (bu 71 23) ?_ HT_ rfl rfl (.inl ⟨by rfl, ?_⟩) ?_ ?_ ?_; rotate_left; (focus intro w'; go_simp; with_reducible rfl); rotate_left; (focus simp only [pk]; rfl)
                 refine pA 23 53 (bu 71 24) ?_ HT_ rfl rfl (.inl ⟨by rfl, ?_⟩) ?_ ?_ ?_; rotate_left; (focus intro w'; go_simp; with_reducible rfl); rotate_left; (focus simp only [pk]; rfl)
                 refine pA 24 54 (bu 71 25) ?_ HT_ rfl rfl (.inl ⟨by rfl, ?_⟩) ?_ ?_ ?_; rotate_left; (focus intro w'; go_simp; with_reducible rfl); rotate_left; (focus simp only [pk]; rfl)
                 refine pA 28 58 (bm 71 0x11ffffff) ?_ HT_ rfl rfl (.inl ⟨by rfl, ?_⟩) ?_ ?_ ?_; rotate_left; (focus intro w'; go_simp; with_reducible rfl); rotate_left; (focus simp only [pk]; rfl)
                 refine pA 29 59 (bm 71 0x31ffffff) ?_ HT_ rfl rfl (.inl ⟨by rfl, ?_⟩) ?_ ?_ ?_; rotate_left; (focus intro w'; go_simp; with_reducible rfl); rotate_left; (focus simp only [pk]; rfl)
                 refine pA 33 63 (bm 71 0x231ffffff) ?_ HT_ rfl rfl (.inl ⟨by rfl, ?_⟩) ?_ ?_ ?_; rotate_left; (focus intro w'; go_simp; with_reducible rfl); rotate_left; (focus simp only [pk]; rfl)
                 refine tA 25 55 (bm 71 0x233ffffff) ?_ HT_ HW_ rfl rfl (.inl ⟨by rfl, ?_⟩) hHeld ?_ ?_ ?_; rotate_left; (focus rintro w' ⟨s0, s1, s2, s3, s4, s5, s6, s7, s8, s9, s10⟩; go_simp; with_reducible rfl); rotate_left; (focus simp only [pk]; rfl)
                 refine pA 26 56 (bm 71 0x237ffffff) ?_ HT_ rfl rfl (.inl ⟨by rfl, ?_⟩) ?_ ?_ ?_; rotate_left; (focus intro w'; go_simp; with_reducible rfl); rotate_left; (focus simp only [pk]; rfl)
                 refine pA 27 57 (bm 71 0x23fffffff) ?_ HT_ rfl rfl (.inl ⟨by rfl, ?_⟩) ?_ ?_ ?_; rotate_left; (focus intro w'; go_simp; with_reducible rfl); rotate_left; (focus simp only [pk]; rfl)
                 refine tA 30 60 (bm 71 0x27fffffff) ?_ HT_ HW_ rfl rfl (.inl ⟨by rfl, ?_⟩) hHeld ?_ ?_ ?_; rotate_left; (focus rintro w' ⟨s0, s1, s2, s3, s4, s5, s6, s7, s8, s9, s10⟩; go_simp; with_reducible rfl); rotate_left; (focus simp only [pk]; rfl)
                 refine pA 31 61 (bm 71 0x2ffffffff) ?_ HT_ rfl rfl (.inl ⟨by rfl, ?_⟩) ?_ ?_ ?_; rotate_left; (focus intro w'; go_simp; with_reducible rfl); rotate_left; (focus simp only [pk]; rfl)
                 refine pA 32 62 (bu 71 34) ?_ HT_ rfl rfl (.inl ⟨by rfl, ?_⟩) ?_ ?_ ?_; rotate_left; (focus intro w'; go_simp; with_reducible rfl); rotate_left; (focus simp only [pk]; rfl)
                 refine tA 34 64 (bu 71 35) ?_ HT_ HW_ rfl rfl (.inl ⟨by rfl, ?_⟩) hHeld ?_ ?_ ?_; rotate_left; (focus rintro w' ⟨s0, s1, s2, s3, s4, s5, s6, s7, s8, s9, s10⟩; go_simp; with_reducible rfl); rotate_left; (focus simp only [pk]; rfl)
                 refine pA 35 65 (bu 71 36) ?_ HT_ rfl rfl (.inl ⟨by rfl, ?_⟩) ?_ ?_ ?_; rotate_left; (focus intro w'; go_simp; with_reducible rfl); rotate_left; (focus simp only [pk]; rfl)
                 refine pA 36 66 (bu 71 37) ?_ HT_ rfl rfl (.inl ⟨by rfl, ?_⟩) ?_ ?_ ?_; rotate_left; (focus intro w'; go_simp; with_reducible rfl); rotate_left; (focus simp only [pk]; rfl)
                 refine pA 37 67 (bu 71 38) ?_ HT_ rfl rfl (.inl ⟨by rfl, ?_⟩) ?_ ?_ ?_; rotate_left; (focus intro w'; go_simp; with_reducible rfl); rotate_left; (focus simp only [pk]; rfl)
                 refine pA 38 68 (bu 71 39) ?_ HT_ rfl rfl (.inl ⟨by rfl, ?_⟩) ?_ ?_ ?_; rotate_left; (focus intro w'; go_simp; with_reducible rfl); rotate_left; (focus simp only [pk]; rfl)
                 refine pA 39 69 (bu 71 40) ?_ HT_ rfl rfl (.inl ⟨by rfl, ?_⟩) ?_ ?_ ?_; rotate_left; (focus intro w'; go_simp; with_reducible rfl); rotate_left; (focus simp only [pk]; rfl)
                 refine pA 42 72 (bm 71 0x4ffffffffff) ?_ HT_ rfl rfl (.inl ⟨by rfl, ?_⟩) ?_ ?_ ?_; rotate_left; (focus intro w'; go_simp; with_reducible rfl); rotate_left; (focus simp only [pk]; rfl)
                 refine tA 40 70 (bm 71 0x5ffffffffff) ?_ HT_ HW_ rfl rfl (.inl ⟨by rfl, ?_⟩) hHeld ?_ ?_ ?_; rotate_left; (focus rintro w' ⟨s0, s1, s2, s3, s4, s5, s6, s7, s8, s9, s10⟩; go_simp; with_reducible rfl); rotate_left; (focus simp only [pk]; rfl)
                 refine pA 41 71 (bu 71 43) ?_ HT_ rfl rfl (.inl ⟨by rfl, ?_⟩) ?_ ?_ ?_; rotate_left; (focus intro w'; go_simp; with_reducible rfl); rotate_left; (focus simp only [pk]; rfl)
                 refine tA 43 73 (bu 71 44) ?_ HT_ HW_ rfl rfl (.inl ⟨by rfl, ?_⟩) hHeld ?_ ?_ ?_; rotate_left; (focus rintro w' ⟨s0, s1, s2, s3, s4, s5, s6, s7, s8, s9, s10⟩; go_simp; with_reducible rfl); rotate_left; (focus simp only [pk]; rfl)
                 refine pA 44 74 (bu 71 45) ?_ HT_ rfl rfl (.inl ⟨by rfl, ?_⟩) ?_ ?_ ?_; rotate_left; (focus intro w'; go_simp; with_reducible rfl); rotate_left; (focus simp only [pk]; rfl)
                 refine pA 45 75 (bu 71 46) ?_ HT_ rfl rfl (.inl ⟨by rfl, ?_⟩) ?_ ?_ ?_; rotate_left; (focus intro w'; go_simp; with_reducible rfl); rotate_left; (focus simp only [pk]; rfl)
                 refine pA 46 76 (bu 71 47) ?_ HT_ rfl rfl (.inl ⟨by rfl, ?_⟩) ?_ ?_ ?_; rotate_left; (focus intro w'; go_simp; with_reducible rfl); rotate_left; (focus simp only [pk]; rfl)
                 refine pU 47 77 (bu 71 48) HT_ ?_ ?_ ?_; rotate_left; (focus simp only [pk]; rfl)
                 refine pU 48 78 (bu 71 49) HT_ ?_ ?_ ?_; rotate_left; (focus simp only [pk]; rfl)
                 refine pU 49 79 (bu 71 50) HT_ ?_ ?_ ?_; rotate_left; (focus simp only [pk]; rfl)
                 refine pU 50 80 (bu 71 51) HT_ ?_ ?_ ?_; rotate_left; (focus simp only [pk]; rfl)
                 refine pU 51 81 (bu 71 52) HT_ ?_ ?_ ?_; rotate_left; (focus simp only [pk]; rfl)
                 refine pU 52 82 (bu 71 53) HT_ ?_ ?_ ?_; rotate_left; (focus simp only [pk]; rfl)
                 refine pU 53 83 (bu 71 54) HT_ ?_ ?_ ?_; rotate_left; (focus simp only [pk]; rfl)
                 refine pU 54 84 (bu 71 55) HT_ ?_ ?_ ?_; rotate_left; (focus simp only [pk]; rfl)
                 refine pA 55 85 (bu 71 56) ?_ HT_ rfl rfl (.inl ⟨by rfl, ?_⟩) ?_ ?_ ?_; rotate_left; (focus intro w'; go_simp; with_reducible rfl); rotate_left; (focus simp only [pk]; rfl)
                 refine pA 56 86 (bu 71 57) ?_ HT_ rfl rfl (.inl ⟨by rfl, ?_⟩) ?_ ?_ ?_; rotate_left; (focus intro w'; go_simp; with_reducible rfl); rotate_left; (focus simp only [pk]; rfl)
                 refine pU 57 87 (bu 71 58) HT_ ?_ ?_ ?_; rotate_left; (focus simp only [pk]; rfl)
                 refine pU 58 88 (bu 71 59) HT_ ?_ ?_ ?_; rotate_left; (focus simp only [pk]; rfl)
                 refine pU 59 89 (bu 71 60) HT_ ?_ ?_ ?_; rotate_left; (focus simp only [pk]; rfl)
                 refine pU 60 90 (bu 71 61) HT_ ?_ ?_ ?_; rotate_left; (focus simp only [pk]; rfl)
                 refine pU 61 91 (bu 71 62) HT_ ?_ ?_ ?_; rotate_left; (focus simp only [pk]; rfl)
                 refine pU 62 92 (bu 71 63) HT_ ?_ ?_ ?_; rotate_left; (focus simp only [pk]; rfl)
                 refine pU 63 93 (bu 71 64) HT_ ?_ ?_ ?_; rotate_left; (focus simp only [pk]; rfl)
                 refine pU 64 94 (bu 71 65) HT_ ?_ ?_ ?_; rotate_left; (focus simp only [pk]; rfl)
                 refine pU 65 95 (bu 71 66) HT_ ?_ ?_ ?_; rotate_left; (focus simp only [pk]; rfl)
                 refine pA 66 96 (bu 71 67) ?_ HT_ rfl rfl (.inl ⟨by rfl, ?_⟩) ?_ ?_ ?_; rotate_left; (focus intro w'; go_simp; with_reducible rfl); rotate_left; (focus simp only [pk]; rfl)
                 refine pA 67 97 (bu 71 68) ?_ HT_ rfl rfl (.inl ⟨by rfl, ?_⟩) ?_ ?_ ?_; rotate_left; (focus intro w'; go_simp; with_reducible rfl); rotate_left; (focus simp only [pk]; rfl)
                 refine pU 68 98 (bu 71 69) HT_ ?_ ?_ ?_; rotate_left; (focus simp only [pk]; rfl)
                 refine pA 69 99 (bu 71 70) ?_ HT_ rfl rfl (.inl ⟨by rfl, ?_⟩) ?_ ?_ ?_; rotate_left; (focus intro w'; go_simp; with_reducible rfl); rotate_left; (focus simp only [pk]; rfl)
                 refine pA 70 2 (bu 71 71) ?_ HT_ rfl rfl (.inl ⟨by rfl, ?_⟩) ?_ ?_ ?_; rotate_left; (focus intro w'; go_simp; with_reducible rfl); rotate_left; (focus simp only [pk]; rfl)
                 refine done_ (done_of HT_.out (by kernel_rfl)) ?_
                 try go_wp2
                 go_ret
                 exact ⟨by first | rfl | (simp [errW_none, errW_some] <;> rfl) | (simp [*, errW_none, errW_some] <;> rfl), by repeat (first | (with_reducible first | exact HB.out | apply b1 | apply b2 | apply b3 | refine below_set ?_ GE272.out) | exact HB.out)⟩
               ·rw [if_neg c26] at H
                exact absurd H (by simp)
              ·rw [if_neg c25] at H
               have c25b0 : ((Go.bits .or .i64 (wrap64 ((wrap64 (rd t274 3)) * 256)) (wrap64 (rd t274 4))) == a0_2) = false := beq_eq_false_iff_ne.mpr c25
               have c25b1 : ((Go.bits .or .i64 (wrap64 ((wrap64 (rd t274 3)) * 256)) (wrap64 (rd t274 4))) != a0_2) = true := bne_iff_ne.mpr c25
               obtain rfl := Option.some.inj H
               try go_wp2
               have n0_ := Aside0.mk (Kd.R_drew HO_3.out)
               have n1_ := Aside0.mk (blk_drew BK272.out)
               have n2_ := Aside0.mk (below_drew1 HB.out)
               clear HO_3
               clear BK272
               clear HB
               have HO_3 := n0_
               have BK272 := n1_
               have HB := n2_
               clear n0_ n1_ n2_
               obtain ⟨Ao47, co47, eo47⟩ := Kd.R_slice HO_3.out
               (first | subst eo47 | (injection eo47 with f1_ f2_ f3_; have f4_ := f1_.symm; have f5_ := f3_.symm; clear f1_ f2_ f3_; subst f4_; subst f5_))
               have p278 : 0 ≤ (0 : Int) := (by omega)
               have q278 : 0 < (t274.length : Int) := of_decide_eq_true (by first | (with_reducible assumption) | assumption)
               obtain ⟨ad278, e278, hx278_0⟩ := Kd.at_int (Kd.R_reads' HO_3.out).2.2 0 p278 q278
               cases e278
               have qi278 : (0 < t274.length) = True := eq_true (by omega)
               (try rw [show ((0 : Int)).toNat = 0 from rfl] at hx278_0)
               (try rw [Addr.add_zero'] at hx278_0)
               replace p278 := eq_true p278
               replace q278 := eq_true q278
               have p279 : 0 ≤ (1 : Int) := (by omega)
               have q279 : 1 < (t274.length : Int) := of_decide_eq_true (by first | (with_reducible assumption) | assumption)
               obtain ⟨ad279, e279, hx279_0⟩ := Kd.at_int (Kd.R_reads' HO_3.out).2.2 1 p279 q279
               obtain rfl : ad278 = ad279 := (by injection e279)
               (try simp only [show (1 : Int).toNat = 1 from rfl, Nat.reduceMul, Nat.reduceEqDiff, Go.Addr.add, ↓reduceIte] at hx279_0)
               have qi279 : (1 < t274.length) = True := eq_true (by omega)
               (try rw [show ((1 : Int)).toNat = 1 from rfl] at hx279_0)
               replace p279 := eq_true p279
               replace q279 := eq_true q279
               have p280 : 0 ≤ (2 : Int) := (by omega)
               have q280 : 2 < (t274.length : Int) := of_decide_eq_true (by first | (with_reducible assumption) | assumption)
               obtain ⟨ad280, e280, hx280_0⟩ := Kd.at_int (Kd.R_reads' HO_3.out).2.2 2 p280 q280
               obtain rfl : ad278 = ad280 := (by injection e280)
               (try simp only [show (2 : Int).toNat = 2 from rfl, Nat.reduceMul, Nat.reduceEqDiff, Go.Addr.add, ↓reduceIte] at hx280_0)
               have qi280 : (2 < t274.length) = True := eq_true (by omega)
               (try rw [show ((2 : Int)).toNat = 2 from rfl] at hx280_0)
               replace p280 := eq_true p280
               replace q280 := eq_true q280
               have p281 : 0 ≤ (3 : Int) := (by omega)
               have q281 : 3 < (t274.length : Int) := of_decide_eq_true (by first | (with_reducible assumption) | assumption)
               obtain ⟨ad281, e281, hx281_0⟩ := Kd.at_int (Kd.R_reads' HO_3.out).2.2 3 p281 q281
               obtain rfl : ad278 = ad281 := (by injection e281)
               (try simp only [show (3 : Int).toNat = 3 from rfl, Nat.reduceMul, Nat.reduceEqDiff, Go.Addr.add, ↓reduceIte] at hx281_0)
               have qi281 : (3 < t274.length) = True := eq_true (by omega)
               (try rw [show ((3 : Int)).toNat = 3 from rfl] at hx281_0)
               replace p281 := eq_true p281
               replace q281 := eq_true q281
               have p282 : 0 ≤ (4 : Int) := (by omega)
               have q282 : 4 < (t274.length : Int) := of_decide_eq_true (by first | (with_reducible assumption) | assumption)
               obtain ⟨ad282, e282, hx282_0⟩ := Kd.at_int (Kd.R_reads' HO_3.out).2.2 4 p282 q282
               obtain rfl : ad278 = ad282 := (by injection e282)
               (try simp only [show (4 : Int).toNat = 4 from rfl, Nat.reduceMul, Nat.reduceEqDiff, Go.Addr.add, ↓reduceIte] at hx282_0)
               have qi282 : (4 < t274.length) = True := eq_true (by omega)
               (try rw [show ((4 : Int)).toNat = 4 from rfl] at hx282_0)
               replace p282 := eq_true p282
               replace q282 := eq_true q282
               refine start_ (n := 71) (S := fun w' => w'.cell? ⟨gb272, 0, none⟩ = some (.int .i64 a0_0) ∧ w'.cell? ⟨gb272, 1, none⟩ = some (.int .i64 a0_1) ∧ w'.cell? ⟨gb272, 2, none⟩ = some (.int .i64 a0_2) ∧ w'.cell? ⟨gb272, 3, none⟩ = some (.int .i64 a0_3) ∧ w'.cell? ⟨gb272, 4, none⟩ = some (.slice A0_4 l0_4.length c0_4) ∧ w'.cell? ad278 = some (.int .u8 (rd t274 0)) ∧ w'.cell? ⟨ad278.block, ad278.off + 1, none⟩ = some (.int .u8 (rd t274 1)) ∧ w'.cell? ⟨ad278.block, ad278.off + 2, none⟩ = some (.int .u8 (rd t274 2)) ∧ w'.cell? ⟨ad278.block, ad278.off + 3, none⟩ = some (.int .u8 (rd t274 3)) ∧ w'.cell? ⟨ad278.block, ad278.off + 4, none⟩ = some (.int .u8 (rd t274 4))) (ds := []) (bu 71 0) (by kernel_rfl) rfl rfl ⟨(blk_cell BK272.out 0).trans rfl, (blk_cell BK272.out 1).trans rfl, (blk_cell BK272.out 2).trans rfl, (blk_cell BK272.out 3).trans rfl, (blk_cell BK272.out 4).trans rfl, hx278_0, hx279_0, hx280_0, hx281_0, hx282_0⟩ (fun hHeld => ?_); refine with_tabW wherrylaw20_FrameFields.tab6 wherrylaw20_FrameFields.bits6 (fun HT_ HW_ => ?_)
               generalize wc.drew = w46 at HO_3 BK272 HB hx278_0 hx279_0 hx280_0 hx281_0 hx282_0 hHeld ⊢
               refine pA 0 30 (bu 71 1) ?_ HT_ rfl rfl (.inl ⟨by rfl, ?_⟩) ?_ ?_ ?_; rotate_left; (focus intro w'; go_simp; with_reducible rfl); rotate_left; (focus simp only [pk]; rfl)
               refine pA 1 31 (bu 71 2) ?_ HT_ rfl rfl (.inl ⟨by rfl, ?_⟩) ?_ ?_ ?_; rotate_left; (focus intro w'; go_simp; with_reducible rfl); rotate_left; (focus simp only [pk]; rfl)
               refine pA 4 34 (bm 71 0x13) ?_ HT_ rfl rfl (.inl ⟨by rfl, ?_⟩) ?_ ?_ ?_; rotate_left; (focus intro w'; go_simp; with_reducible rfl); rotate_left; (focus simp only [pk]; rfl)
               refine tA 2 32 (bm 71 0x17) ?_ HT_ HW_ rfl rfl (.inl ⟨by rfl, ?_⟩) hHeld ?_ ?_ ?_; rotate_left; (focus rintro w' ⟨s0, s1, s2, s3, s4, s5, s6, s7, s8, s9⟩; go_simp; with_reducible rfl); rotate_left; (focus simp only [pk]; rfl)
               refine pA 3 33 (bu 71 5) ?_ HT_ rfl rfl (.inl ⟨by rfl, ?_⟩) ?_ ?_ ?_; rotate_left; (focus intro w'; go_simp; with_reducible rfl); rotate_left; (focus simp only [pk]; rfl)
               refine tA 5 35 (bu 71 6) ?_ HT_ HW_ rfl rfl (.inl ⟨by rfl, ?_⟩) hHeld ?_ ?_ ?_; rotate_left; (focus rintro w' ⟨s0, s1, s2, s3, s4, s5, s6, s7, s8, s9⟩; go_simp; with_reducible rfl); rotate_left; (focus simp only [pk]; rfl)
               refine pA 6 36 (bu 71 7) ?_ HT_ rfl rfl (.inl ⟨by rfl, ?_⟩) ?_ ?_ ?_; rotate_left; (focus intro w'; go_simp; with_reducible rfl); rotate_left; (focus simp only [pk]; rfl)
               refine pA 7 37 (bu 71 8) ?_ HT_ rfl rfl (.inl ⟨by rfl, ?_⟩) ?_ ?_ ?_; rotate_left; (focus intro w'; go_simp; with_reducible rfl); rotate_left; (focus simp only [pk]; rfl)
               refine pA 8 38 (bu 71 9) ?_ HT_ rfl rfl (.inl ⟨by rfl, ?_⟩) ?_ ?_ ?_; rotate_left; (focus intro w'; go_simp; with_reducible rfl); rotate_left; (focus simp only [pk]; rfl)
               refine pA 9 39 (bu 71 10) ?_ HT_ rfl rfl (.inl ⟨by rfl, ?_⟩) ?_ ?_ ?_; rotate_left; (focus intro w'; go_simp; with_reducible rfl); rotate_left; (focus simp only [pk]; rfl)
               refine pA 13 43 (bm 71 0x23ff) ?_ HT_ rfl rfl (.inl ⟨by rfl, ?_⟩) ?_ ?_ ?_; rotate_left; (focus intro w'; go_simp; with_reducible rfl); rotate_left; (focus simp only [pk]; rfl)
               refine pA 14 44 (bm 71 0x63ff) ?_ HT_ rfl rfl (.inl ⟨by rfl, ?_⟩) ?_ ?_ ?_; rotate_left; (focus intro w'; go_simp; with_reducible rfl); rotate_left; (focus simp only [pk]; rfl)
               refine pA 18 48 (bm 71 0x463ff) ?_ HT_ rfl rfl (.inl ⟨by rfl, ?_⟩) ?_ ?_ ?_; rotate_left; (focus intro w'; go_simp; with_reducible rfl); rotate_left; (focus simp only [pk]; rfl)
               refine tA 10 40 (bm 71 0x467ff) ?_ HT_ HW_ rfl rfl (.inl ⟨by rfl, ?_⟩) hHeld ?_ ?_ ?_; rotate_left; (focus rintro w' ⟨s0, s1, s2, s3, s4, s5, s6, s7, s8, s9⟩; go_simp; with_reducible rfl); rotate_left; (focus simp only [pk]; rfl)
               refine pA 11 41 (bm 71 0x46fff) ?_ HT_ rfl rfl (.inl ⟨by rfl, ?_⟩) ?_ ?_ ?_; rotate_left; (focus intro w'; go_simp; with_reducible rfl); rotate_left; (focus simp only [pk]; rfl)
               refine pA 12 42 (bm 71 0x47fff) ?_ HT_ rfl rfl (.inl ⟨by rfl, ?_⟩) ?_ ?_ ?_; rotate_left; (focus intro w'; go_simp; with_reducible rfl); rotate_left; (focus simp only [pk]; rfl)
               refine tA 15 45 (bm 71 0x4ffff) ?_ HT_ HW_ rfl rfl (.inl ⟨by rfl, ?_⟩) hHeld ?_ ?_ ?_; rotate_left; (focus rintro w' ⟨s0, s1, s2, s3, s4, s5, s6, s7, s8, s9⟩; go_simp; with_reducible rfl); rotate_left; (focus simp only [pk]; rfl)
               refine pA 16 46 (bm 71 0x5ffff) ?_ HT_ rfl rfl (.inl ⟨by rfl, ?_⟩) ?_ ?_ ?_; rotate_left; (focus intro w'; go_simp; with_reducible rfl); rotate_left; (focus simp only [pk]; rfl)
               refine pA 17 47 (bu 71 19) ?_ HT_ rfl rfl (.inl ⟨by rfl, ?_⟩) ?_ ?_ ?_; rotate_left; (focus intro w'; go_simp; with_reducible rfl); rotate_left; (focus simp only [pk]; rfl)
               refine tA 19 49 (bu 71 20) ?_ HT_ HW_ rfl rfl (.inl ⟨by rfl, ?_⟩) hHeld ?_ ?_ ?_; rotate_left; (focus rintro w' ⟨s0, s1, s2, s3, s4, s5, s6, s7, s8, s9⟩; go_simp; with_reducible rfl); rotate_left; (focus simp only [pk]; rfl)
               refine pA 20 50 (bu 71 21) ?_ HT_ rfl rfl (.inl ⟨by rfl, ?_⟩) ?_ ?_ ?_; rotate_left; (focus intro w'; go_simp; with_reducible rfl); rotate_left; (focus simp only [pk]; rfl)
               refine pA 21 51 (bu 71 22) ?_ HT_ rfl rfl (.inl ⟨by rfl, ?_⟩) ?_ ?_ ?_; rotate_left; (focus intro w'; go_simp; with_reducible rfl); rotate_left; (focus simp only [pk]; rfl)
               refine pA 22 52 (bu 71 23) ?_ HT_ rfl rfl (.inl ⟨by rfl, ?_⟩) ?_ ?_ ?_; rotate_left; (focus intro w'; go_simp; with_reducible rfl); rotate_left; (focus simp only [pk]; rfl)
               refine pA 23 53 (bu 71 24) ?_ HT_ rfl rfl (.inl ⟨by rfl, ?_⟩) ?_ ?_ ?_; rotate_left; (focus intro w'; go_simp; with_reducible rfl); rotate_left; (focus simp only [pk]; rfl)
               refine pA 24 54 (bu 71 25) ?_ HT_ rfl rfl (.inl ⟨by rfl, ?_⟩) ?_ ?_ ?_; rotate_left; (focus intro w'; go_simp; with_reducible rfl); rotate_left; (focus simp only [pk]; rfl)
               refine pA 28 58 (bm 71 0x11ffffff) ?_ HT_ rfl rfl (.inl ⟨by rfl, ?_⟩) ?_ ?_ ?_; rotate_left; (focus intro w'; go_simp; with_reducible rfl); rotate_left; (focus simp only [pk]; rfl)
               refine pA 29 59 (bm 71 0x31ffffff) ?_ HT_ rfl rfl (.inl ⟨by rfl, ?_⟩) ?_ ?_ ?_; rotate_left; (focus intro w'; go_simp; with_reducible rfl); rotate_left; (focus simp only [pk]; rfl)
               refine pA 33 63 (bm 71 0x231ffffff) ?_ HT_ rfl rfl (.inl ⟨by rfl, ?_⟩) ?_ ?_ ?_; rotate_left; (focus intro w'; go_simp; with_reducible rfl); rotate_left; (focus simp only [pk]; rfl)
               refine tA 25 55 (bm 71 0x233ffffff) ?_ HT_ HW_ rfl rfl (.inl ⟨by rfl, ?_⟩) hHeld ?_ ?_ ?_; rotate_left; (focus rintro w' ⟨s0, s1, s2, s3, s4, s5, s6, s7, s8, s9⟩; go_simp; with_reducible rfl); rotate_left; (focus simp only [pk]; rfl)
               refine pA 26 56 (bm 71 0x237ffffff) ?_ HT_ rfl rfl (.inl ⟨by rfl, ?_⟩) ?_ ?_ ?_; rotate_left; (focus intro w'; go_simp; with_reducible rfl); rotate_left; (focus simp only [pk]; rfl)
               refine pA 27 57 (bm 71 0x23fffffff) ?_ HT_ rfl rfl (.inl ⟨by rfl, ?_⟩) ?_ ?_ ?_; rotate_left; (focus intro w'; go_simp; with_reducible rfl); rotate_left; (focus simp only [pk]; rfl)
               refine tA 30 60 (bm 71 0x27fffffff) ?_ HT_ HW_ rfl rfl (.inl ⟨by rfl, ?_⟩) hHeld ?_ ?_ ?_; rotate_left; (focus rintro w' ⟨s0, s1, s2, s3, s4, s5, s6, s7, s8, s9⟩; go_simp; with_reducible rfl); rotate_left; (focus simp only [pk]; rfl)
               refine pA 31 61 (bm 71 0x2ffffffff) ?_ HT_ rfl rfl (.inl ⟨by rfl, ?_⟩) ?_ ?_ ?_; rotate_left; (focus intro w'; go_simp; with_reducible rfl); rotate_left; (focus simp only [pk]; rfl)
               refine pA 32 62 (bu 71 34) ?_ HT_ rfl rfl (.inl ⟨by rfl, ?_⟩) ?_ ?_ ?_; rotate_left; (focus intro w'; go_simp; with_reducible rfl); rotate_left; (focus simp only [pk]; rfl)
               refine tA 34 64 (bu 71 35) ?_ HT_ HW_ rfl rfl (.inl ⟨by rfl, ?_⟩) hHeld ?_ ?_ ?_; rotate_left; (focus rintro w' ⟨s0, s1, s2, s3, s4, s5, s6, s7, s8, s9⟩; go_simp; with_reducible rfl); rotate_left; (focus simp only [pk]; rfl)
               refine pA 35 65 (bu 71 36) ?_ HT_ rfl rfl (.inl ⟨by rfl, ?_⟩) ?_ ?_ ?_; rotate_left; (focus intro w'; go_simp; with_reducible rfl); rotate_left; (focus simp only [pk]; rfl)
               refine pA 36 66 (bu 71 37) ?_ HT_ rfl rfl (.inl ⟨by rfl, ?_⟩) ?_ ?_ ?_; rotate_left; (focus intro w'; go_simp; with_reducible rfl); rotate_left; (focus simp only [pk]; rfl)
               refine pA 37 67 (bu 71 38) ?_ HT_ rfl rfl (.inl ⟨by rfl, ?_⟩) ?_ ?_ ?_; rotate_left; (focus intro w'; go_simp; with_reducible rfl); rotate_left; (focus simp only [pk]; rfl)
               refine pU 38 68 (bu 71 39) HT_ ?_ ?_ ?_; rotate_left; (focus simp only [pk]; rfl)
               refine pU 39 69 (bu 71 40) HT_ ?_ ?_ ?_; rotate_left; (focus simp only [pk]; rfl)
               refine pU 40 70 (bu 71 41) HT_ ?_ ?_ ?_; rotate_left; (focus simp only [pk]; rfl)
               refine pU 41 71 (bu 71 42) HT_ ?_ ?_ ?_; rotate_left; (focus simp only [pk]; rfl)
               refine pU 42 72 (bu 71 43) HT_ ?_ ?_ ?_; rotate_left; (focus simp only [pk]; rfl)
               refine pU 43 73 (bu 71 44) HT_ ?_ ?_ ?_; rotate_left; (focus simp only [pk]; rfl)
               refine pU 44 74 (bu 71 45) HT_ ?_ ?_ ?_; rotate_left; (focus simp only [pk]; rfl)
               refine pA 45 75 (bu 71 46) ?_ HT_ rfl rfl (.inl ⟨by rfl, ?_⟩) ?_ ?_ ?_; rotate_left; (focus intro w'; go_simp; with_reducible rfl); rotate_left; (focus simp only [pk]; rfl)
               refine pA 46 76 (bu 71 47) ?_ HT_ rfl rfl (.inl ⟨by rfl, ?_⟩) ?_ ?_ ?_; rotate_left; (focus intro w'; go_simp; with_reducible rfl); rotate_left; (focus simp only [pk]; rfl)
               refine pU 47 77 (bu 71 48) HT_ ?_ ?_ ?_; rotate_left; (focus simp only [pk]; rfl)
               refine pU 48 78 (bu 71 49) HT_ ?_ ?_ ?_; rotate_left; (focus simp only [pk]; rfl)
               refine pU 49 79 (bu 71 50) HT_ ?_ ?_ ?_; rotate_left; (focus simp only [pk]; rfl)
               refine pU 50 80 (bu 71 51) HT_ ?_ ?_ ?_; rotate_left; (focus simp only [pk]; rfl)
               refine pU 51 81 (bu 71 52) HT_ ?_ ?_ ?_; rotate_left; (focus simp only [pk]; rfl)
               refine pU 52 82 (bu 71 53) HT_ ?_ ?_ ?_; rotate_left; (focus simp only [pk]; rfl)
               refine pU 53 83 (bu 71 54) HT_ ?_ ?_ ?_; rotate_left; (focus simp only [pk]; rfl)
               refine pU 54 84 (bu 71 55) HT_ ?_ ?_ ?_; rotate_left; (focus simp only [pk]; rfl)
               refine pA 55 85 (bu 71 56) ?_ HT_ rfl rfl (.inl ⟨by rfl, ?_⟩) ?_ ?_ ?_; rotate_left; (focus intro w'; go_simp; with_reducible rfl); rotate_left; (focus simp only [pk]; rfl)
               refine pA 56 86 (bu 71 57) ?_ HT_ rfl rfl (.inl ⟨by rfl, ?_⟩) ?_ ?_ ?_; rotate_left; (focus intro w'; go_simp; with_reducible rfl); rotate_left; (focus simp only [pk]; rfl)
               refine pU 57 87 (bu 71 58) HT_ ?_ ?_ ?_; rotate_left; (focus simp only [pk]; rfl)
               refine pU 58 88 (bu 71 59) HT_ ?_ ?_ ?_; rotate_left; (focus simp only [pk]; rfl)
               refine pU 59 89 (bu 71 60) HT_ ?_ ?_ ?_; rotate_left; (focus simp only [pk]; rfl)
               refine pU 60 90 (bu 71 61) HT_ ?_ ?_ ?_; rotate_left; (focus simp only [pk]; rfl)
               refine pU 61 91 (bu 71 62) HT_ ?_ ?_ ?_; rotate_left; (focus simp only [pk]; rfl)
               refine pU 62 92 (bu 71 63) HT_ ?_ ?_ ?_; rotate_left; (focus simp only [pk]; rfl)
               refine pU 63 93 (bu 71 64) HT_ ?_ ?_ ?_; rotate_left; (focus simp only [pk]; rfl)
               refine pU 64 94 (bu 71 65) HT_ ?_ ?_ ?_; rotate_left; (focus simp only [pk]; rfl)
               refine pU 65 95 (bu 71 66) HT_ ?_ ?_ ?_; rotate_left; (focus simp only [pk]; rfl)
               refine pA 66 96 (bu 71 67) ?_ HT_ rfl rfl (.inl ⟨by rfl, ?_⟩) ?_ ?_ ?_; rotate_left; (focus intro w'; go_simp; with_reducible rfl); rotate_left; (focus simp only [pk]; rfl)
               refine pA 67 97 (bu 71 68) ?_ HT_ rfl rfl (.inl ⟨by rfl, ?_⟩) ?_ ?_ ?_; rotate_left; (focus intro w'; go_simp; with_reducible rfl); rotate_left; (focus simp only [pk]; rfl)
               refine pU 68 98 (bu 71 69) HT_ ?_ ?_ ?_; rotate_left; (focus simp only [pk]; rfl)
               refine pA 69 99 (bu 71 70) ?_ HT_ rfl rfl (.inl ⟨by rfl, ?_⟩) ?_ ?_ ?_; rotate_left; (focus intro w'; go_simp; with_reducible rfl); rotate_left; (focus simp only [pk]; rfl)
               refine pA 70 2 (bu 71 71) ?_ HT_ rfl rfl (.inl ⟨by rfl, ?_⟩) ?_ ?_ ?_; rotate_left; (focus intro w'; go_simp; with_reducible rfl); rotate_left; (focus simp only [pk]; rfl)
               refine done_ (done_of HT_.out (by kernel_rfl)) ?_
               try go_wp2
               go_ret
               exact ⟨by first | rfl | (simp [errW_none, errW_some] <;> rfl) | (simp [*, errW_none, errW_some] <;> rfl), by repeat (first | (with_reducible first | exact HB.out | apply b1 | apply b2 | apply b3 | refine below_set ?_ GE272.out) | exact HB.out)⟩
             ·rw [if_neg c24] at H
              exact absurd H (by simp)
            ·rw [if_neg c23] at H
             exact absurd H (by simp)
           ·rw [if_neg c22] at H
            have c22b0 : ((Go.bits .or .i64 (wrap64 ((wrap64 (rd t274 1)) * 256)) (wrap64 (rd t274 2))) == a0_1) = false := beq_eq_false_iff_ne.mpr c22
            have c22b1 : ((Go.bits .or .i64 (wrap64 ((wrap64 (rd t274 1)) * 256)) (wrap64 (rd t274 2))) != a0_1) = true := bne_iff_ne.mpr c22
            obtain rfl := Option.some.inj H
            try go_wp2
            have n0_ := Aside0.mk (Kd.R_drew HO_3.out)
            have n1_ := Aside0.mk (blk_drew BK272.out)
            have n2_ := Aside0.mk (below_drew1 HB.out)
            clear HO_3
            clear BK272
            clear HB
            have HO_3 := n0_
            have BK272 := n1_
            have HB := n2_
            clear n0_ n1_ n2_
            obtain ⟨Ao49, co49, eo49⟩ := Kd.R_slice HO_3.out
            (first | subst eo49 | (injection eo49 with f1_ f2_ f3_; have f4_ := f1_.symm; have f5_ := f3_.symm; clear f1_ f2_ f3_; subst f4_; subst f5_))
            have p278 : 0 ≤ (0 : Int) := (by omega)
            have q278 : 0 < (t274.length : Int) := of_decide_eq_true (by first | (with_reducible assumption) | assumption)
            obtain ⟨ad278, e278, hx278_0⟩ := Kd.at_int (Kd.R_reads' HO_3.out).2.2 0 p278 q278
            cases e278
            have qi278 : (0 < t274.length) = True := eq_true (by omega)
            (try rw [show ((0 : Int)).toNat = 0 from rfl] at hx278_0)
            (try rw [Addr.add_zero'] at hx278_0)
            replace p278 := eq_true p278
            replace q278 := eq_true q278
            have p279 : 0 ≤ (1 : Int) := (by omega)
            have q279 : 1 < (t274.length : Int) := of_decide_eq_true (by first | (with_reducible assumption) | assumption)
            obtain ⟨ad279, e279, hx279_0⟩ := Kd.at_int (Kd.R_reads' HO_3.out).2.2 1 p279 q279
            obtain rfl : ad278 = ad279 := (by injection e279)
            (try simp only [show (1 : Int).toNat = 1 from rfl, Nat.reduceMul, Nat.reduceEqDiff, Go.Addr.add, ↓reduceIte] at hx279_0)
            have qi279 : (1 < t274.length) = True := eq_true (by omega)
            (try rw [show ((1 : Int)).toNat = 1 from rfl] at hx279_0)
            replace p279 := eq_true p279
            replace q279 := eq_true q279
            have p280 : 0 ≤ (2 : Int) := (by omega)
            have q280 : 2 < (t274.length : Int) := of_decide_eq_true (by first | (with_reducible assumption) | assumption)
            obtain ⟨ad280, e280, hx280_0⟩ := Kd.at_int (Kd.R_reads' HO_3.out).2.2 2 p280 q280
            obtain rfl : ad278 = ad280 := (by injection e280)
            (try simp only [show (2 : Int).toNat = 2 from rfl, Nat.reduceMul, Nat.reduceEqDiff, Go.Addr.add, ↓reduceIte] at hx280_0)
            have qi280 : (2 < t274.length) = True := eq_true (by omega)
            (try rw [show ((2 : Int)).toNat = 2 from rfl] at hx280_0)
            replace p280 := eq_true p280
            replace q280 := eq_true q280
            refine start_ (n := 71) (S := fun w' => w'.cell? ⟨gb272, 0, none⟩ = some (.int .i64 a0_0) ∧ w'.cell? ⟨gb272, 1, none⟩ = some (.int .i64 a0_1) ∧ w'.cell? ⟨gb272, 2, none⟩ = some (.int .i64 a0_2) ∧ w'.cell? ⟨gb272, 3, none⟩ = some (.int .i64 a0_3) ∧ w'.cell? ⟨gb272, 4, none⟩ = some (.slice A0_4 l0_4.length c0_4) ∧ w'.cell? ad278 = some (.int .u8 (rd t274 0)) ∧ w'.cell? ⟨ad278.block, ad278.off + 1, none⟩ = some (.int .u8 (rd t274 1)) ∧ w'.cell? ⟨ad278.block, ad278.off + 2, none⟩ = some (.int .u8 (rd t274 2))) (ds := []) (bu 71 0) (by kernel_rfl) rfl rfl ⟨(blk_cell BK272.out 0).trans rfl, (blk_cell BK272.out 1).trans rfl, (blk_cell BK272.out 2).trans rfl, (blk_cell BK272.out 3).trans rfl, (blk_cell BK272.out 4).trans rfl, hx278_0, hx279_0, hx280_0⟩ (fun hHeld => ?_); refine with_tabW wherrylaw20_FrameFields.tab6 wherrylaw20_FrameFields.bits6 (fun HT_ HW_ => ?_)
            generalize wc.drew = w48 at HO_3 BK272 HB hx278_0 hx279_0 hx280_0 hHeld ⊢
            refine pA 0 30 (bu 71 1) ?_ HT_ rfl rfl (.inl ⟨by rfl, ?_⟩) ?_ ?_ ?_; rotate_left; (focus intro w'; go_simp; with_reducible rfl); rotate_left; (focus simp only [pk]; rfl)
            refine pA 1 31 (bu 71 2) ?_ HT_ rfl rfl (.inl ⟨by rfl, ?_⟩) ?_ ?_ ?_; rotate_left; (focus intro w'; go_simp; with_reducible rfl); rotate_left; (focus simp only [pk]; rfl)
            refine pA 4 34 (bm 71 0x13) ?_ HT_ rfl rfl (.inl ⟨by rfl, ?_⟩) ?_ ?_ ?_; rotate_left; (focus intro w'; go_simp; with_reducible rfl); rotate_left; (focus simp only [pk]; rfl)
            refine tA 2 32 (bm 71 0x17) ?_ HT_ HW_ rfl rfl (.inl ⟨by rfl, ?_⟩) hHeld ?_ ?_ ?_; rotate_left; (focus rintro w' ⟨s0, s1, s2, s3, s4, s5, s6, s7⟩; go_simp; with_reducible rfl); rotate_left; (focus simp only [pk]; rfl)
            refine pA 3 33 (bu 71 5) ?_ HT_ rfl rfl (.inl ⟨by rfl, ?_⟩) ?_ ?_ ?_; rotate_left; (focus intro w'; go_simp; with_reducible rfl); rotate_left; (focus simp only [pk]; rfl)
            refine tA 5 35 (bu 71 6) ?_ HT_ HW_ rfl rfl (.inl ⟨by rfl, ?_⟩) hHeld ?_ ?_ ?_; rotate_left; (focus rintro w' ⟨s0, s1, s2, s3, s4, s5, s6, s7⟩; go_simp; with_reducible rfl); rotate_left; (focus simp only [pk]; rfl)
            refine pA 6 36 (bu 71 7) ?_ HT_ rfl rfl (.inl ⟨by rfl, ?_⟩) ?_ ?_ ?_; rotate_left; (focus intro w'; go_simp; with_reducible rfl); rotate_left; (focus simp only [pk]; rfl)
            refine pA 7 37 (bu 71 8) ?_ HT_ rfl rfl (.inl ⟨by rfl, ?_⟩) ?_ ?_ ?_; rotate_left; (focus intro w'; go_simp; with_reducible rfl); rotate_left; (focus simp only [pk]; rfl)
            refine pA 8 38 (bu 71 9) ?_ HT_ rfl rfl (.inl ⟨by rfl, ?_⟩) ?_ ?_ ?_; rotate_left; (focus intro w'; go_simp; with_reducible rfl); rotate_left; (focus simp only [pk]; rfl)
            refine pA 9 39 (bu 71 10) ?_ HT_ rfl rfl (.inl ⟨by rfl, ?_⟩) ?_ ?_ ?_; rotate_left; (focus intro w'; go_simp; with_reducible rfl); rotate_left; (focus simp only [pk]; rfl)
            refine pA 13 43 (bm 71 0x23ff) ?_ HT_ rfl rfl (.inl ⟨by rfl, ?_⟩) ?_ ?_ ?_; rotate_left; (focus intro w'; go_simp; with_reducible rfl); rotate_left; (focus simp only [pk]; rfl)
            refine pA 14 44 (bm 71 0x63ff) ?_ HT_ rfl rfl (.inl ⟨by rfl, ?_⟩) ?_ ?_ ?_; rotate_left; (focus intro w'; go_simp; with_reducible rfl); rotate_left; (focus simp only [pk]; rfl)
            refine pA 18 48 (bm 71 0x463ff) ?_ HT_ rfl rfl (.inl ⟨by rfl, ?_⟩) ?_ ?_ ?_; rotate_left; (focus intro w'; go_simp; with_reducible rfl); rotate_left; (focus simp only [pk]; rfl)
            refine tA 10 40 (bm 71 0x467ff) ?_ HT_ HW_ rfl rfl (.inl ⟨by rfl, ?_⟩) hHeld ?_ ?_ ?_; rotate_left; (focus rintro w' ⟨s0, s1, s2, s3, s4, s5, s6, s7⟩; go_simp; with_reducible rfl); rotate_left; (focus simp only [pk]; rfl)
            refine pA 11 41 (bm 71 0x46fff) ?_ HT_ rfl rfl (.inl ⟨by rfl, ?_⟩) ?_ ?_ ?_; rotate_left; (focus intro w'; go_simp; with_reducible rfl); rotate_left; (focus simp only [pk]; rfl)
            refine pA 12 42 (bm 71 0x47fff) ?_ HT_ rfl rfl (.inl ⟨by rfl, ?_⟩) ?_ ?_ ?_; rotate_left; (focus intro w'; go_simp; with_reducible rfl); rotate_left; (focus simp only [pk]; rfl)
            refine tA 15 45 (bm 71 0x4ffff) ?_ HT_ HW_ rfl rfl (.inl ⟨by rfl, ?_⟩) hHeld ?_ ?_ ?_; rotate_left; (focus rintro w' ⟨s0, s1, s2, s3, s4, s5, s6, s7⟩; go_simp; with_reducible rfl); rotate_left; (focus simp only [pk]; rfl)
            refine pA 16 46 (bm 71 0x5ffff) ?_ HT_ rfl rfl (.inl ⟨by rfl, ?_⟩) ?_ ?_ ?_; rotate_left; (focus intro w'; go_simp; with_reducible rfl); rotate_left; (focus simp only [pk]; rfl)
            refine pA 17 47 (bu 71 19) ?_ HT_ rfl rfl (.inl ⟨by rfl, ?_⟩) ?_ ?_ ?_; rotate_left; (focus intro w'; go_simp; with_reducible rfl); rotate_left; (focus simp only [pk]; rfl)
            refine tA 19 49 (bu 71 20) ?_ HT_ HW_ rfl rfl (.inl ⟨by rfl, ?_⟩) hHeld ?_ ?_ ?_; rotate_left; (focus rintro w' ⟨s0, s1, s2, s3, s4, s5, s6, s7⟩; go_simp; with_reducible rfl); rotate_left; (focus simp only [pk]; rfl)
            refine pA 20 50 (bu 71 21) ?_ HT_ rfl rfl (.inl ⟨by rfl, ?_⟩) ?_ ?_ ?_; rotate_left; (focus intro w'; go_simp; with_reducible rfl); rotate_left; (focus simp only [pk]; rfl)
            refine pA 21 51 (bu 71 22) ?_ HT_ rfl rfl (.inl ⟨by rfl, ?_⟩) ?_ ?_ ?_; rotate_left; (focus intro w'; go_simp; with_reducible rfl); rotate_left; (focus simp only [pk]; rfl)
            refine pA 22 52 (bu 71 23) ?_ HT_ rfl rfl (.inl ⟨by rfl, ?_⟩) ?_ ?_ ?_; rotate_left; (focus intro w'; go_simp; with_reducible rfl); rotate_left; (focus simp only [pk]; rfl)
            refine pU 23 53 (bu 71 24) HT_ ?_ ?_ ?_; rotate_left; (focus simp only [pk]; rfl)
            refine pU 24 54 (bu 71 25) HT_ ?_ ?_ ?_; rotate_left; (focus simp only [pk]; rfl)
            refine pU 25 55 (bu 71 26) HT_ ?_ ?_ ?_; rotate_left; (focus simp only [pk]; rfl)
            refine pU 26 56 (bu 71 27) HT_ ?_ ?_ ?_; rotate_left; (focus simp only [pk]; rfl)
            refine pU 27 57 (bu 71 28) HT_ ?_ ?_ ?_; rotate_left; (focus simp only [pk]; rfl)
            refine pU 28 58 (bu 71 29) HT_ ?_ ?_ ?_; rotate_left; (focus simp only [pk]; rfl)
            refine pU 29 59 (bu 71 30) HT_ ?_ ?_ ?_; rotate_left; (focus simp only [pk]; rfl)
            refine pU 30 60 (bu 71 31) HT_ ?_ ?_ ?_; rotate_left; (focus simp only [pk]; rfl)
            refine pU 31 61 (bu 71 32) HT_ ?_ ?_ ?_; rotate_left; (focus simp only [pk]; rfl)
            refine pU 32 62 (bu 71 33) HT_ ?_ ?_ ?_; rotate_left; (focus simp only [pk]; rfl)
            refine pU 33 63 (bu 71 34) HT_ ?_ ?_ ?_; rotate_left; (focus simp only [pk]; rfl)
            refine pU 34 64 (bu 71 35) HT_ ?_ ?_ ?_; rotate_left; (focus simp only [pk]; rfl)
            refine pU 35 65 (bu 71 36) HT_ ?_ ?_ ?_; rotate_left; (focus simp only [pk]; rfl)
            refine pA 36 66 (bu 71 37) ?_ HT_ rfl rfl (.inl ⟨by rfl, ?_⟩) ?_ ?_ ?_; rotate_left; (focus intro w'; go_simp; with_reducible rfl); rotate_left; (focus simp only [pk]; rfl)
            refine pA 37 67 (bu 71 38) ?_ HT_ rfl rfl (.inl ⟨by rfl, ?_⟩) ?_ ?_ ?_; rotate_left; (focus intro w'; go_simp; with_reducible rfl); rotate_left; (focus simp only [pk]; rfl)
            refine pU 38 68 (bu 71 39) HT_ ?_ ?_ ?_; rotate_left; (focus simp only [pk]; rfl)
            refine pU 39 69 (bu 71 40) HT_ ?_ ?_ ?_; rotate_left; (focus simp only [pk]; rfl)
            refine pU 40 70 (bu 71 41) HT_ ?_ ?_ ?_; rotate_left; (focus simp only [pk]; rfl)
            refine pU 41 71 (bu 71 42) HT_ ?_ ?_ ?_; rotate_left; (focus simp only [pk]; rfl)
            refine pU 42 72 (bu 71 43) HT_ ?_ ?_ ?_; rotate_left; (focus simp only [pk]; rfl)
            refine pU 43 73 (bu 71 44) HT_ ?_ ?_ ?_; rotate_left; (focus simp only [pk]; rfl)
            refine pU 44 74 (bu 71 45) HT_ ?_ ?_ ?_; rotate_left; (focus simp only [pk]; rfl)
            refine pA 45 75 (bu 71 46) ?_ HT_ rfl rfl (.inl ⟨by rfl, ?_⟩) ?_ ?_ ?_; rotate_left; (focus intro w'; go_simp; with_reducible rfl); rotate_left; (focus simp only [pk]; rfl)
            refine pA 46 76 (bu 71 47) ?_ HT_ rfl rfl (.inl ⟨by rfl, ?_⟩) ?_ ?_ ?_; rotate_left; (focus intro w'; go_simp; with_reducible rfl); rotate_left; (focus simp only [pk]; rfl)
            refine pU 47 77 (bu 71 48) HT_ ?_ ?_ ?_; rotate_left; (focus simp only [pk]; rfl)
            refine pU 48 78 (bu 71 49) HT_ ?_ ?_ ?_; rotate_left; (focus simp only [pk]; rfl)
            refine pU 49 79 (bu 71 50) HT_ ?_ ?_ ?_; rotate_left; (focus simp only [pk]; rfl)
            refine pU 50 80 (bu 71 51) HT_ ?_ ?_ ?_; rotate_left; (focus simp only [pk]; rfl)
            refine pU 51 81 (bu 71 52) HT_ ?_ ?_ ?_; rotate_left; (focus simp only [pk]; rfl)
            refine pU 52 82 (bu 71 53) HT_ ?_ ?_ ?_; rotate_left; (focus simp only [pk]; rfl)
            refine pU 53 83 (bu 71 54) HT_ ?_ ?_ ?_; rotate_left; (focus simp only [pk]; rfl)
            refine pU 54 84 (bu 71 55) HT_ ?_ ?_ ?_; rotate_left; (focus simp only [pk]; rfl)
            refine pA 55 85 (bu 71 56) ?_ HT_ rfl rfl (.inl ⟨by rfl, ?_⟩) ?_ ?_ ?_; rotate_left; (focus intro w'; go_simp; with_reducible rfl); rotate_left; (focus simp only [pk]; rfl)
            refine pA 56 86 (bu 71 57) ?_ HT_ rfl rfl (.inl ⟨by rfl, ?_⟩) ?_ ?_ ?_; rotate_left; (focus intro w'; go_simp; with_reducible rfl); rotate_left; (focus simp only [pk]; rfl)
            refine pU 57 87 (bu 71 58) HT_ ?_ ?_ ?_; rotate_left; (focus simp only [pk]; rfl)
            refine pU 58 88 (bu 71 59) HT_ ?_ ?_ ?_; rotate_left; (focus simp only [pk]; rfl)
            refine pU 59 89 (bu 71 60) HT_ ?_ ?_ ?_; rotate_left; (focus simp only [pk]; rfl)
            refine pU 60 90 (bu 71 61) HT_ ?_ ?_ ?_; rotate_left; (focus simp only [pk]; rfl)
            refine pU 61 91 (bu 71 62) HT_ ?_ ?_ ?_; rotate_left; (focus simp only [pk]; rfl)
            refine pU 62 92 (bu 71 63) HT_ ?_ ?_ ?_; rotate_left; (focus simp only [pk]; rfl)
            refine pU 63 93 (bu 71 64) HT_ ?_ ?_ ?_; rotate_left; (focus simp only [pk]; rfl)
            refine pU 64 94 (bu 71 65) HT_ ?_ ?_ ?_; rotate_left; (focus simp only [pk]; rfl)
            refine pU 65 95 (bu 71 66) HT_ ?_ ?_ ?_; rotate_left; (focus simp only [pk]; rfl)
            refine pA 66 96 (bu 71 67) ?_ HT_ rfl rfl (.inl ⟨by rfl, ?_⟩) ?_ ?_ ?_; rotate_left; (focus intro w'; go_simp; with_reducible rfl); rotate_left; (focus simp only [pk]; rfl)
            refine pA 67 97 (bu 71 68) ?_ HT_ rfl rfl (.inl ⟨by rfl, ?_⟩) ?_ ?_ ?_; rotate_left; (focus intro w'; go_simp; with_reducible rfl); rotate_left; (focus simp only [pk]; rfl)
            refine pU 68 98 (bu 71 69) HT_ ?_ ?_ ?_; rotate_left; (focus simp only [pk]; rfl)
            refine pA 69 99 (bu 71 70) ?_ HT_ rfl rfl (.inl ⟨by rfl, ?_⟩) ?_ ?_ ?_; rotate_left; (focus intro w'; go_simp; with_reducible rfl); rotate_left; (focus simp only [pk]; rfl)
            refine pA 70 2 (bu 71 71) ?_ HT_ rfl rfl (.inl ⟨by rfl, ?_⟩) ?_ ?_ ?_; rotate_left; (focus intro w'; go_simp; with_reducible rfl); rotate_left; (focus simp only [pk]; rfl)
            refine done_ (done_of HT_.out (by kernel_rfl)) ?_
            try go_wp2
            go_ret
            exact ⟨by first | rfl | (simp [errW_none, errW_some] <;> rfl) | (simp [*, errW_none, errW_some] <;> rfl), by repeat (first | (with_reducible first | exact HB.out | apply b1 | apply b2 | apply b3 | refine below_set ?_ GE272.out) | exact HB.out)⟩
          ·rw [if_neg c21] at H
           exact absurd H (by simp)
         ·rw [if_neg c20] at H
          exact absurd H (by simp)
        ·rw [if_neg c19] at H
         have c19b0 : ((wrap64 (rd t274 0)) == a0_0) = false := beq_eq_false_iff_ne.mpr c19
         have c19b1 : ((wrap64 (rd t274 0)) != a0_0) = true := bne_iff_ne.mpr c19
         obtain rfl := Option.some.inj H
         try go_wp2
         have n0_ := Aside0.mk (Kd.R_drew HO_3.out)
         have n1_ := Aside0.mk (blk_drew BK272.out)
         have n2_ := Aside0.mk (below_drew1 HB.out)
         clear HO_3
         clear BK272
         clear HB
         have HO_3 := n0_
         have BK272 := n1_
         have HB := n2_
         clear n0_ n1_ n2_
         obtain ⟨Ao51, co51, eo51⟩ := Kd.R_slice HO_3.out
         (first | subst eo51 | (injection eo51 with f1_ f2_ f3_; have f4_ := f1_.symm; have f5_ := f3_.symm; clear f1_ f2_ f3_; subst f4_; subst f5_))
         have p278 : 0 ≤ (0 : Int) := (by omega)
         have q278 : 0 < (t274.length : Int) := of_decide_eq_true (by first | (with_reducible assumption) | assumption)
         obtain ⟨ad278, e278, hx278_0⟩ := Kd.at_int (Kd.R_reads' HO_3.out).2.2 0 p278 q278
         cases e278
         have qi278 : (0 < t274.length) = True := eq_true (by omega)
         (try rw [show ((0 : Int)).toNat = 0 from rfl] at hx278_0)
         (try rw [Addr.add_zero'] at hx278_0)
         replace p278 := eq_true p278
         replace q278 := eq_true q278
         refine start_ (n := 71) (S := fun w' => w'.cell? ⟨gb272, 0, none⟩ = some (.int .i64 a0_0) ∧ w'.cell? ⟨gb272, 1, none⟩ = some (.int .i64 a0_1) ∧ w'.cell? ⟨gb272, 2, none⟩ = some (.int .i64 a0_2) ∧ w'.cell? ⟨gb272, 3, none⟩ = some (.int .i64 a0_3) ∧ w'.cell? ⟨gb272, 4, none⟩ = some (.slice A0_4 l0_4.length c0_4) ∧ w'.cell? ad278 = some (.int .u8 (rd t274 0))) (ds := []) (bu 71 0) (by kernel_rfl) rfl rfl ⟨(blk_cell BK272.out 0).trans rfl, (blk_cell BK272.out 1).trans rfl, (blk_cell BK272.out 2).trans rfl, (blk_cell BK272.out 3).trans rfl, (blk_cell BK272.out 4).trans rfl, hx278_0⟩ (fun hHeld => ?_); refine with_tabW wherrylaw20_FrameFields.tab6 wherrylaw20_FrameFields.bits6 (fun HT_ HW_ => ?_)
         generalize wc.drew = w50 at HO_3 BK272 HB hx278_0 hHeld ⊢
         refine pA 0 30 (bu 71 1) ?_ HT_ rfl rfl (.inl ⟨by rfl, ?_⟩) ?_ ?_ ?_; rotate_left; (focus intro w'; go_simp; with_reducible rfl); rotate_left; (focus simp only [pk]; rfl)
         refine pA 1 31 (bu 71 2) ?_ HT_ rfl rfl (.inl ⟨by rfl, ?_⟩) ?_ ?_ ?_; rotate_left; (focus intro w'; go_simp; with_reducible rfl); rotate_left; (focus simp only [pk]; rfl)
         refine pA 4 34 (bm 71 0x13) ?_ HT_ rfl rfl (.inl ⟨by rfl, ?_⟩) ?_ ?_ ?_; rotate_left; (focus intro w'; go_simp; with_reducible rfl); rotate_left; (focus simp only [pk]; rfl)
         refine tA 2 32 (bm 71 0x17) ?_ HT_ HW_ rfl rfl (.inl ⟨by rfl, ?_⟩) hHeld ?_ ?_ ?_; rotate_left; (focus rintro w' ⟨s0, s1, s2, s3, s4, s5⟩; go_simp; with_reducible rfl); rotate_left; (focus simp only [pk]; rfl)
         refine pA 3 33 (bu 71 5) ?_ HT_ rfl rfl (.inl ⟨by rfl, ?_⟩) ?_ ?_ ?_; rotate_left; (focus intro w'; go_simp; with_reducible rfl); rotate_left; (focus simp only [pk]; rfl)
         refine tA 5 35 (bu 71 6) ?_ HT_ HW_ rfl rfl (.inl ⟨by rfl, ?_⟩) hHeld ?_ ?_ ?_; rotate_left; (focus rintro w' ⟨s0, s1, s2, s3, s4, s5⟩; go_simp; with_reducible rfl); rotate_left; (focus simp only [pk]; rfl)
         refine pA 6 36 (bu 71 7) ?_ HT_ rfl rfl (.inl ⟨by rfl, ?_⟩) ?_ ?_ ?_; rotate_left; (focus intro w'; go_simp; with_reducible rfl); rotate_left; (focus simp only [pk]; rfl)
         refine pA 7 37 (bu 71 8) ?_ HT_ rfl rfl (.inl ⟨by rfl, ?_⟩) ?_ ?_ ?_; rotate_left; (focus intro w'; go_simp; with_reducible rfl); rotate_left; (focus simp only [pk]; rfl)
         refine pU 8 38 (bu 71 9) HT_ ?_ ?_ ?_; rotate_left; (focus simp only [pk]; rfl)
         refine pU 9 39 (bu 71 10) HT_ ?_ ?_ ?_; rotate_left; (focus simp only [pk]; rfl)
         refine pU 10 40 (bu 71 11) HT_ ?_ ?_ ?_; rotate_left; (focus simp only [pk]; rfl)
         refine pU 11 41 (bu 71 12) HT_ ?_ ?_ ?_; rotate_left; (focus simp only [pk]; rfl)
         refine pU 12 42 (bu 71 13) HT_ ?_ ?_ ?_; rotate_left; (focus simp only [pk]; rfl)
         refine pU 13 43 (bu 71 14) HT_ ?_ ?_ ?_; rotate_left; (focus simp only [pk]; rfl)
         refine pU 14 44 (bu 71 15) HT_ ?_ ?_ ?_; rotate_left; (focus simp only [pk]; rfl)
         refine pU 15 45 (bu 71 16) HT_ ?_ ?_ ?_; rotate_left; (focus simp only [pk]; rfl)
         refine pU 16 46 (bu 71 17) HT_ ?_ ?_ ?_; rotate_left; (focus simp only [pk]; rfl)
         refine pU 17 47 (bu 71 18) HT_ ?_ ?_ ?_; rotate_left; (focus simp only [pk]; rfl)
         refine pU 18 48 (bu 71 19) HT_ ?_ ?_ ?_; rotate_left; (focus simp only [pk]; rfl)
         refine pU 19 49 (bu 71 20) HT_ ?_ ?_ ?_; rotate_left; (focus simp only [pk]; rfl)
         refine pU 20 50 (bu 71 21) HT_ ?_ ?_ ?_; rotate_left; (focus simp only [pk]; rfl)
         refine pA 21 51 (bu 71 22) ?_ HT_ rfl rfl (.inl ⟨by rfl, ?_⟩) ?_ ?_ ?_; rotate_left; (focus intro w'; go_simp; with_reducible rfl); rotate_left; (focus simp only [pk]; rfl)
         refine pA 22 52 (bu 71 23) ?_ HT_ rfl rfl (.inl ⟨by rfl, ?_⟩) ?_ ?_ ?_; rotate_left; (focus intro w'; go_simp; with_reducible rfl); rotate_left; (focus simp only [pk]; rfl)
         refine pU 23 53 (bu 71 24) HT_ ?_ ?_ ?_; rotate_left; (focus simp only [pk]; rfl)
         refine pU 24 54 (bu 71 25) HT_ ?_ ?_ ?_; rotate_left; (focus simp only [pk]; rfl)
         refine pU 25 55 (bu 71 26) HT_ ?_ ?_ ?_; rotate_left; (focus simp only [pk]; rfl)
         refine pU 26 56 (bu 71 27) HT_ ?_ ?_ ?_; rotate_left; (focus simp only [pk]; rfl)
         refine pU 27 57 (bu 71 28) HT_ ?_ ?_ ?_; rotate_left; (focus simp only [pk]; rfl)
         refine pU 28 58 (bu 71 29) HT_ ?_ ?_ ?_; rotate_left; (focus simp only [pk]; rfl)
         refine pU 29 59 (bu 71 30) HT_ ?_ ?_ ?_; rotate_left; (focus simp only [pk]; rfl)
         refine pU 30 60 (bu 71 31) HT_ ?_ ?_ ?_; rotate_left; (focus simp only [pk]; rfl)
         refine pU 31 61 (bu 71 32) HT_ ?_ ?_ ?_; rotate_left; (focus simp only [pk]; rfl)
         refine pU 32 62 (bu 71 33) HT_ ?_ ?_ ?_; rotate_left; (focus simp only [pk]; rfl)
         refine pU 33 63 (bu 71 34) HT_ ?_ ?_ ?_; rotate_left; (focus simp only [pk]; rfl)
         refine pU 34 64 (bu 71 35) HT_ ?_ ?_ ?_; rotate_left; (focus simp only [pk]; rfl)
         refine pU 35 65 (bu 71 36) HT_ ?_ ?_ ?_; rotate_left; (focus simp only [pk]; rfl)
         refine pA 36 66 (bu 71 37) ?_ HT_ rfl rfl (.inl ⟨by rfl, ?_⟩) ?_ ?_ ?_; rotate_left; (focus intro w'; go_simp; with_reducible rfl); rotate_left; (focus simp only [pk]; rfl)
         refine pA 37 67 (bu 71 38) ?_ HT_ rfl rfl (.inl ⟨by rfl, ?_⟩) ?_ ?_ ?_; rotate_left; (focus intro w'; go_simp; with_reducible rfl); rotate_left; (focus simp only [pk]; rfl)
         refine pU 38 68 (bu 71 39) HT_ ?_ ?_ ?_; rotate_left; (focus simp only [pk]; rfl)
         refine pU 39 69 (bu 71 40) HT_ ?_ ?_ ?_; rotate_left; (focus simp only [pk]; rfl)
         refine pU 40 70 (bu 71 41) HT_ ?_ ?_ ?_; rotate_left; (focus simp only [pk]; rfl)
         refine pU 41 71 (bu 71 42) HT_ ?_ ?_ ?_; rotate_left; (focus simp only [pk]; rfl)
         refine pU 42 72 (bu 71 43) HT_ ?_ ?_ ?_; rotate_left; (focus simp only [pk]; rfl)
         refine pU 43 73 (bu 71 44) HT_ ?_ ?_ ?_; rotate_left; (focus simp only [pk]; rfl)
         refine pU 44 74 (bu 71 45) HT_ ?_ ?_ ?_; rotate_left; (focus simp only [pk]; rfl)
         refine pA 45 75 (bu 71 46) ?_ HT_ rfl rfl (.inl ⟨by rfl, ?_⟩) ?_ ?_ ?_; rotate_left; (focus intro w'; go_simp; with_reducible rfl); rotate_left; (focus simp only [pk]; rfl)
         refine pA 46 76 (bu 71 47) ?_ HT_ rfl rfl (.inl ⟨by rfl, ?_⟩) ?_ ?_ ?_; rotate_left; (focus intro w'; go_simp; with_reducible rfl); rotate_left; (focus simp only [pk]; rfl)
         refine pU 47 77 (bu 71 48) HT_ ?_ ?_ ?_; rotate_left; (focus simp only [pk]; rfl)
         refine pU 48 78 (bu 71 49) HT_ ?_ ?_ ?_; rotate_left; (focus simp only [pk]; rfl)
         refine pU 49 79 (bu 71 50) HT_ ?_ ?_ ?_; rotate_left; (focus simp only [pk]; rfl)
         refine pU 50 80 (bu 71 51) HT_ ?_ ?_ ?_; rotate_left; (focus simp only [pk]; rfl)
         refine pU 51 81 (bu 71 52) HT_ ?_ ?_ ?_; rotate_left; (focus simp only [pk]; rfl)
         refine pU 52 82 (bu 71 53) HT_ ?_ ?_ ?_; rotate_left; (focus simp only [pk]; rfl)
         refine pU 53 83 (bu 71 54) HT_ ?_ ?_ ?_; rotate_left; (focus simp only [pk]; rfl)
         refine pU 54 84 (bu 71 55) HT_ ?_ ?_ ?_; rotate_left; (focus simp only [pk]; rfl)
         refine pA 55 85 (bu 71 56) ?_ HT_ rfl rfl (.inl ⟨by rfl, ?_⟩) ?_ ?_ ?_; rotate_left; (focus intro w'; go_simp; with_reducible rfl); rotate_left; (focus simp only [pk]; rfl)
         refine pA 56 86 (bu 71 57) ?_ HT_ rfl rfl (.inl ⟨by rfl, ?_⟩) ?_ ?_ ?_; rotate_left; (focus intro w'; go_simp; with_reducible rfl); rotate_left; (focus simp only [pk]; rfl)
         refine pU 57 87 (bu 71 58) HT_ ?_ ?_ ?_; rotate_left; (focus simp only [pk]; rfl)
         refine pU 58 88 (bu 71 59) HT_ ?_ ?_ ?_; rotate_left; (focus simp only [pk]; rfl)
         refine pU 59 89 (bu 71 60) HT_ ?_ ?_ ?_; rotate_left; (focus simp only [pk]; rfl)
         refine pU 60 90 (bu 71 61) HT_ ?_ ?_ ?_; rotate_left; (focus simp only [pk]; rfl)
         refine pU 61 91 (bu 71 62) HT_ ?_ ?_ ?_; rotate_left; (focus simp only [pk]; rfl)
         refine pU 62 92 (bu 71 63) HT_ ?_ ?_ ?_; rotate_left; (focus simp only [pk]; rfl)
         refine pU 63 93 (bu 71 64) HT_ ?_ ?_ ?_; rotate_left; (focus simp only [pk]; rfl)
         refine pU 64 94 (bu 71 65) HT_ ?_ ?_ ?_; rotate_left; (focus simp only [pk]; rfl)
         refine pU 65 95 (bu 71 66) HT_ ?_ ?_ ?_; rotate_left; (focus simp only [pk]; rfl)
         refine pA 66 96 (bu 71 67) ?_ HT_ rfl rfl (.inl ⟨by rfl, ?_⟩) ?_ ?_ ?_; rotate_left; (focus intro w'; go_simp; with_reducible rfl); rotate_left; (focus simp only [pk]; rfl)
         refine pA 67 97 (bu 71 68) ?_ HT_ rfl rfl (.inl ⟨by rfl, ?_⟩) ?_ ?_ ?_; rotate_left; (focus intro w'; go_simp; with_reducible rfl); rotate_left; (focus simp only [pk]; rfl)
         refine pU 68 98 (bu 71 69) HT_ ?_ ?_ ?_; rotate_left; (focus simp only [pk]; rfl)
         refine pA 69 99 (bu 71 70) ?_ HT_ rfl rfl (.inl ⟨by rfl, ?_⟩) ?_ ?_ ?_; rotate_left; (focus intro w'; go_simp; with_reducible rfl); rotate_left; (focus simp only [pk]; rfl)
         refine pA 70 2 (bu 71 71) ?_ HT_ rfl rfl (.inl ⟨by rfl, ?_⟩) ?_ ?_ ?_; rotate_left; (focus intro w'; go_simp; with_reducible rfl); rotate_left; (focus simp only [pk]; rfl)
         refine done_ (done_of HT_.out (by kernel_rfl)) ?_
         try go_wp2
         go_ret
         exact ⟨by first | rfl | (simp [errW_none, errW_some] <;> rfl) | (simp [*, errW_none, errW_some] <;> rfl), by repeat (first | (with_reducible first | exact HB.out | apply b1 | apply b2 | apply b3 | refine below_set ?_ GE272.out) | exact HB.out)⟩
       ·rw [if_neg c18] at H
        exact absurd H (by simp)

end Go.Proofs.Ytcomabcmjhlabaa.FA
