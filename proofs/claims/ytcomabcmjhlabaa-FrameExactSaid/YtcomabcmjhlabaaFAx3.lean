/- Functions of the program, each told as a plain Lean function, and that the program computes it: written by this session's own program. -/
import Derived.Test.YtcomabcmjhlabaaFAx0
import Derived.Test.YtcomabcmjhlabaaFAx2
namespace Go.Proofs.Ytcomabcmjhlabaa.FA
open Go.RowKit Go.Proofs.YtcomabcmjhlabaaW.PrintWords Go.Proofs.YtcomabcmjhlabaaW.PrintLast Go.Proofs.YtcomabcmjhlabaaW.PrintMore
attribute [local go_sem] max2_int min2_int max_two min_two max_three min_three max_four min_four   -- for this text's walks alone
set_option linter.unusedVariables false
set_option linter.unusedSimpArgs false

/-! ### frame_Read: function 11 -/
mutual
def frame_Read.j0 : Nat → List Int → Bool → Option (Int × Int × Int × Int × List Int × Int)
 | 0, _, _ => none
 | k + 1, x0, x16 => if x16 = true then (some (0, 0, 0, 0, ([] : List Int), 3)) else (if 0 ≤ (wrap64 ((x0.length : Int) - 2)) then (if (wrap64 ((x0.length : Int) - 2)) ≤ (x0.length : Int) then ((sums_Short.f k (x0.take ((wrap64 ((x0.length : Int) - 2)) : Int).toNat)).bind fun t139 => (if 0 < ((x0.drop ((wrap64 ((x0.length : Int) - 2)) : Int).toNat).length : Int) then (if 1 < ((x0.drop ((wrap64 ((x0.length : Int) - 2)) : Int).toNat).length : Int) then (if t139 = (Go.bits .or .i64 (wrap64 (rd (x0.drop ((wrap64 ((x0.length : Int) - 2)) : Int).toNat) 0)) (wrap64 ((wrap64 (rd (x0.drop ((wrap64 ((x0.length : Int) - 2)) : Int).toNat) 1)) * 256))) then (if 0 < (x0.length : Int) then (if 1 < (x0.length : Int) then (if 2 < (x0.length : Int) then (if 3 < (x0.length : Int) then (if 4 < (x0.length : Int) then (if 5 < (x0.length : Int) then (if 7 ≤ ((x0.take ((wrap64 ((x0.length : Int) - 2)) : Int).toNat).length : Int) then ((bytes_Clone.f ((x0.take ((wrap64 ((x0.length : Int) - 2)) : Int).toNat).drop 7)).bind fun t149 => ((frame_Bytes.f k (wrap64 (rd x0 0)) (Go.bits .or .i64 (wrap64 ((wrap64 (rd x0 1)) * 256)) (wrap64 (rd x0 2))) (Go.bits .or .i64 (wrap64 ((wrap64 (rd x0 3)) * 256)) (wrap64 (rd x0 4))) (wrap64 (rd x0 5)) t149).bind fun bt153 => (if bt153.2 = 0 then ((bytes_Equal.f bt153.1 x0).bind fun t157 => (frame_Read.j1 k (!t157) (wrap64 (rd x0 0)) (Go.bits .or .i64 (wrap64 ((wrap64 (rd x0 1)) * 256)) (wrap64 (rd x0 2))) (Go.bits .or .i64 (wrap64 ((wrap64 (rd x0 3)) * 256)) (wrap64 (rd x0 4))) (wrap64 (rd x0 5)) t149)) else (frame_Read.j1 k true (wrap64 (rd x0 0)) (Go.bits .or .i64 (wrap64 ((wrap64 (rd x0 1)) * 256)) (wrap64 (rd x0 2))) (Go.bits .or .i64 (wrap64 ((wrap64 (rd x0 3)) * 256)) (wrap64 (rd x0 4))) (wrap64 (rd x0 5)) t149)))) else (none)) else (none)) else (none)) else (none)) else (none)) else (none)) else (none)) else (some (0, 0, 0, 0, ([] : List Int), 6))) else (none)) else (none))) else (none)) else (none))
def frame_Read.j1 : Nat → Bool → Int → Int → Int → Int → List Int → Option (Int × Int × Int × Int × List Int × Int)
 | 0, _, _, _, _, _, _ => none
 | k + 1, x86, x153000, x153001, x153002, x153003, x153004 => if x86 = true then (some (0, 0, 0, 0, ([] : List Int), 3)) else (if (x153004.length : Int) = 0 then (some (x153000, x153001, x153002, x153003, ([] : List Int), 0)) else (some (x153000, x153001, x153002, x153003, x153004, 0)))
end
def frame_Read.f (k : Nat) (l0 : List Int) : Option (Int × Int × Int × Int × List Int × Int) := if (l0.length : Int) < 9 then (frame_Read.j0 k l0 true) else (frame_Read.j0 k l0 (decide ((l0.length : Int) > 57)))
theorem frame_Read.mono_l : ∀ k, (∀ y0 y1, LeO (frame_Read.j0 k y0 y1) (frame_Read.j0 (k + 1) y0 y1)) ∧ (∀ y0 y1 y2 y3 y4 y5, LeO (frame_Read.j1 k y0 y1 y2 y3 y4 y5) (frame_Read.j1 (k + 1) y0 y1 y2 y3 y4 y5))
 | 0 => ⟨fun _ _ r h => by simp [frame_Read.j0] at h, fun _ _ _ _ _ _ r h => by simp [frame_Read.j1] at h⟩
 | k + 1 => by
  obtain ⟨ih0, ih1⟩ := frame_Read.mono_l k
  refine ⟨?_, ?_⟩
  ·intro y0 y1
   unfold frame_Read.j0
   repeat' first
   | (with_reducible exact ih0 _ _)
   | (with_reducible exact ih1 _ _ _ _ _ _)
   | (with_reducible exact frame_Bytes.mono _ _ _ _ _ _)
   | (with_reducible exact sums_Short.mono _ _)
   | (with_reducible exact LeO.refl _)
   | (with_reducible exact LeO.none _)
   | (with_reducible refine LeO.ite ?_ ?_)
   | (with_reducible refine LeO.bind ?_ (fun _ => ?_))
   | exact ih0 _ _
   | exact ih1 _ _ _ _ _ _
   | exact frame_Bytes.mono _ _ _ _ _ _
   | exact sums_Short.mono _ _
   | exact LeO.none _
   | refine LeO.ite ?_ ?_
   | refine LeO.bind ?_ (fun _ => ?_)
  ·intro y0 y1 y2 y3 y4 y5
   unfold frame_Read.j1
   repeat' first
   | (with_reducible exact ih0 _ _)
   | (with_reducible exact ih1 _ _ _ _ _ _)
   | (with_reducible exact frame_Bytes.mono _ _ _ _ _ _)
   | (with_reducible exact sums_Short.mono _ _)
   | (with_reducible exact LeO.refl _)
   | (with_reducible exact LeO.none _)
   | (with_reducible refine LeO.ite ?_ ?_)
   | (with_reducible refine LeO.bind ?_ (fun _ => ?_))
   | exact ih0 _ _
   | exact ih1 _ _ _ _ _ _
   | exact frame_Bytes.mono _ _ _ _ _ _
   | exact sums_Short.mono _ _
   | exact LeO.none _
   | refine LeO.ite ?_ ?_
   | refine LeO.bind ?_ (fun _ => ?_)
theorem frame_Read.mono : ∀ a0 k, LeO (frame_Read.f k a0) (frame_Read.f (k + 1) a0) := by
 intro a0 k
 obtain ⟨ih0, ih1⟩ := frame_Read.mono_l k
 unfold frame_Read.f
 repeat' first
   | (with_reducible exact ih0 _ _)
   | (with_reducible exact ih1 _ _ _ _ _ _)
   | (with_reducible exact frame_Bytes.mono _ _ _ _ _ _)
   | (with_reducible exact sums_Short.mono _ _)
   | (with_reducible exact LeO.refl _)
   | (with_reducible exact LeO.none _)
   | (with_reducible refine LeO.ite ?_ ?_)
   | (with_reducible refine LeO.bind ?_ (fun _ => ?_))
   | exact ih0 _ _
   | exact ih1 _ _ _ _ _ _
   | exact frame_Bytes.mono _ _ _ _ _ _
   | exact sums_Short.mono _ _
   | exact LeO.none _
   | refine LeO.ite ?_ ?_
   | refine LeO.bind ?_ (fun _ => ?_)
def frame_Read.T3 : Bool × List (List Nat × List Nat) := (true, [([], []), ([], []), ([1], [1]), ([2], [2]), ([0, 3], [0, 3]), ([], []), ([], []), ([6], [6]), ([7], [7]), ([5, 8], [5, 8]), ([4, 0, 1, 2, 3, 4], [4]), ([9, 10, 0, 1, 2, 3, 4, 5, 6, 7, 8, 9, 10], [9])])
def frame_Read.B3 : List Nat := [0, 0, 2, 6, 15, 0, 0, 64, 192, 480, 31, 2047]
theorem frame_Read.tab3 : rtab .any (opsOf Try.f11 3) = frame_Read.T3 := by kernel_rfl
theorem frame_Read.bits3 : waitsOk frame_Read.T3.2 frame_Read.B3 = true := by kernel_rfl
def frame_Read.T4 : Bool × List (List Nat × List Nat) := (true, [([], []), ([0], [0]), ([], []), ([2], [2]), ([3], [3]), ([4], [4]), ([], []), ([6], [6]), ([7], [7]), ([8], [8]), ([9], [9]), ([5, 10], [5, 10]), ([1, 11], [1, 11])])
def frame_Read.B4 : List Nat := [0, 1, 0, 4, 12, 28, 0, 64, 192, 448, 960, 2044, 4095]
theorem frame_Read.tab4 : rtab .any (opsOf Try.f11 4) = frame_Read.T4 := by kernel_rfl
theorem frame_Read.bits4 : waitsOk frame_Read.T4.2 frame_Read.B4 = true := by kernel_rfl
def frame_Read.T6 : Bool × List (List Nat × List Nat) := (true, [([], []), ([0], [0]), ([1], [1]), ([2], [2]), ([], []), ([4], [4]), ([5], [5]), ([6], [6]), ([7], [7]), ([], []), ([9], [9]), ([10], [10]), ([11], [11]), ([8, 12], [8, 12]), ([], []), ([14], [14]), ([15], [15]), ([16], [16]), ([17], [17]), ([], []), ([19], [19]), ([20], [20]), ([21], [21]), ([18, 22], [18, 22]), ([], []), ([24], [24]), ([25], [25]), ([26], [26]), ([], []), ([28], [28]), ([29], [29]), ([3, 13, 23, 27, 30], [3, 13, 23, 27, 30]), ([], []), ([32, 31, 30, 0, 1, 2, 3, 4, 5, 6, 7, 8, 9, 10, 11, 12, 13, 14, 15, 16, 17, 18, 19, 20, 21, 22, 23, 24, 25, 26, 27, 28, 29, 30, 31, 32], [31, 32])])
def frame_Read.B6 : List Nat := [0, 1, 3, 7, 0, 16, 48, 112, 240, 0, 512, 1536, 3584, 8176, 0, 16384, 49152, 114688, 245760, 0, 524288, 1572864, 3670016, 8372224, 0, 16777216, 50331648, 117440512, 0, 268435456, 805306368, 2147483647, 0, 8589934591]
theorem frame_Read.tab6 : rtab .any (opsOf Try.f11 6) = frame_Read.T6 := by kernel_rfl
theorem frame_Read.bits6 : waitsOk frame_Read.T6.2 frame_Read.B6 = true := by kernel_rfl
set_option maxHeartbeats 8000000 in
set_option maxRecDepth 100000 in
theorem frame_Read.calls (k : Nat) (A0 : Option Addr) (c0 : Nat) (l0 : List Int) (r1 : Int) (r2 : Int) (r3 : Int) (r4 : Int) (r5 : List Int) (r6 : Int) (w : World) (hr0 : Kd.C (Kd.int .u8) w A0 l0.length l0) (hc0 : l0.length ≤ c0) (h : frame_Read.f k l0 = some (r1, r2, r3, r4, r5, r6)) :
  Calls Try.prog 11 #[.slice A0 l0.length c0] w fun e w' => ∃ v4_ : Value, e = .returned (.tuple #[.agg #[.int .i64 r1, .int .i64 r2, .int .i64 r3, .int .i64 r4, v4_], .int .i64 r6]) ∧ Kd.R (Kd.int .u8) 5 w' w.heap.size (fun _ => True) v4_ r5 ∧ Below w.heap.size w w' := by
 have hu24 := Try.underlying24
 have HR0 := Aside0.mk hr0
 have HC0 := Aside0.mk hc0
 clear hr0 hc0
 have HB := Aside0.mk (Below.refl w.heap.size w)
 have H : (if (l0.length : Int) < 9 then (frame_Read.j0 k l0 true) else (frame_Read.j0 k l0 (decide ((l0.length : Int) > 57)))) = some (r1, r2, r3, r4, r5, r6) := h
 clear h
 have HC2 := Aside0.mk H
 clear H
 go_enter Try.func11, Try.ntmps11
 go_upto_region 1 with (first | ((with_reducible refine gate_dst (N := 2) rfl ?_); (try (refine gate_guard (by rfl) ?_; dsimp only)); refine box_event ?hg (N := 2) ?hd (cs := #[.int .i64 0, .int .i64 0, .int .i64 0, .int .i64 0, .slice none 0 0]) (t := 24) ?hr ?_; (case hd => rfl); (case hg => rfl); (case hr => first | (go_simp; done) | (go_simp; rfl)); intro gb136 hg w3 hbox hb; have n0_ := Aside0.mk (below_step (by first | with_reducible exact HB.out | exact sB HB.out) hb); have n1_ := Aside0.mk (hbox); have n2_ := Aside0.mk ((by rw [hg]; exact (below_size (by first | with_reducible exact HB.out | exact sB HB.out)) : w.heap.size ≤ gb136)); have n3_ := Aside0.mk ((by rw [hg]; exact (below_size (by first | with_reducible exact HB.out | exact sB HB.out)) : w.heap.size ≤ gb136)); clear HB; have HB := n0_; have BK136 := n1_; have GW136 := n2_; have GE136 := n3_; clear n0_ n1_ n2_ n3_; clear hb hbox hg))
 (try simp only [Act.put, List.setIfInBounds_toArray, List.set_cons_zero, List.set_cons_succ])
 go_cut [16] (fun v16 wc => ∃ (kq : Nat) (x16_1 : Bool), v16 = .bool x16_1 ∧ Aside0 (frame_Read.j0 kq l0 x16_1 = some (r1, r2, r3, r4, r5, r6)) ∧ Aside0 (kq ≤ k) ∧ Aside0 (wc.heap[gb136]? = some (.cells #[.int .i64 0, .int .i64 0, .int .i64 0, .int .i64 0, (.slice none 0 0)] 24 (0, 0))) ∧ Aside0 (Below w.heap.size w wc))
 case first =>
  have H := HC2.out
  clear HC2
  by_cases c4 : (l0.length : Int) < 9
  ·rw [if_pos c4] at H
   have c4b0 : decide ((l0.length : Int) < 9) = true := decide_eq_true c4
   have c4b1 : decide (l0.length < 9) = true := decide_eq_true (by omega)
   clear c4
   (first | rw [c4b0] | (simp only [i64_w, i32_w]; rw [c4b0]) | skip)
   have H' := Aside0.mk H
   clear H
   go_wp2
   go_meet
   case rel => exact ⟨_, (true), (by first | rfl | (simp; done) | (simp [*]; done)), H', ⟨by first | omega | exact Nat.le_refl _⟩, ⟨by (with_reducible repeat (first | refine k2 ?_ _ | refine k3 ?_ | refine k1 ?_ _)); exact BK136.out⟩, ⟨by repeat (first | (with_reducible first | exact HB.out | apply b1 | apply b2 | apply b3 | refine below_set ?_ GE136.out) | exact HB.out)⟩⟩
  ·rw [if_neg c4] at H
   have c4b0 : decide ((l0.length : Int) < 9) = false := decide_eq_false c4
   have c4b1 : decide (l0.length < 9) = false := decide_eq_false (by omega)
   clear c4
   (first | rw [c4b0] | (simp only [i64_w, i32_w]; rw [c4b0]) | skip)
   have H' := Aside0.mk H
   clear H
   go_wp2
   go_meet
   case rel => exact ⟨_, (decide ((l0.length : Int) > 57)), (by first | rfl | (simp; done) | (simp [*]; done)), H', ⟨by first | omega | exact Nat.le_refl _⟩, ⟨by (with_reducible repeat (first | refine k2 ?_ _ | refine k3 ?_ | refine k1 ?_ _)); exact BK136.out⟩, ⟨by repeat (first | (with_reducible first | exact HB.out | apply b1 | apply b2 | apply b3 | refine below_set ?_ GE136.out) | exact HB.out)⟩⟩
 case rest =>
  clear HC2
  try clear c1
  try clear p2
  try clear c4
  try clear c4b0
  try clear c4b1
  obtain ⟨kq, x16_1, rfl, HA, HJ1, BK136, HB⟩ := hcut
  cases kq with
  | zero => exact absurd HA.out (by simp [frame_Read.j0])
  | succ kj1 =>
   have H := HA.out
   clear HA
   simp only [frame_Read.j0] at H
   by_cases c5 : x16_1 = true
   ·subst c5
    have H1 : (some (0, 0, 0, 0, ([] : List Int), 3)) = some (r1, r2, r3, r4, r5, r6) := by rw [if_pos rfl] at H; exact H
    clear H
    have H := H1
    clear H1
    simp only [Option.some.injEq, Prod.mk.injEq] at H
    obtain ⟨rfl, rfl, rfl, rfl, rfl, rfl⟩ := H
    have hcz6_0 : wc.cell? ⟨gb136, 0, none⟩ = some (.int .i64 0) := (blk_cell BK136.out 0).trans rfl
    have hcz6_1 : wc.cell? ⟨gb136, 1, none⟩ = some (.int .i64 0) := (blk_cell BK136.out 1).trans rfl
    have hcz6_2 : wc.cell? ⟨gb136, 2, none⟩ = some (.int .i64 0) := (blk_cell BK136.out 2).trans rfl
    have hcz6_3 : wc.cell? ⟨gb136, 3, none⟩ = some (.int .i64 0) := (blk_cell BK136.out 3).trans rfl
    have hcz6_4 : wc.cell? ⟨gb136, 4, none⟩ = some (.slice none 0 0) := (blk_cell BK136.out 4).trans rfl
    have hfz6_0 := blk_frozen BK136.out 0
    have hfz6_1 := blk_frozen BK136.out 1
    have hfz6_2 := blk_frozen BK136.out 2
    have hfz6_3 := blk_frozen BK136.out 3
    have hfz6_4 := blk_frozen BK136.out 4
    go_wp2
    refine bodyPost_ret (results_ct rfl _ _ gb136 24 #[.int .i64 0, .int .i64 0, .int .i64 0, .int .i64 0, .slice none 0 0] (0, 0) _ rfl (by (with_reducible repeat (first | refine k2 ?_ _ | refine k3 ?_ | refine k1 ?_ _)); refine blk_put (cs := #[.int .i64 0, .int .i64 0, .int .i64 0, .int .i64 0, .slice none 0 0]) ?_ 4 _ rfl; (with_reducible repeat (first | refine k2 ?_ _ | refine k3 ?_ | refine k1 ?_ _)); refine blk_put (cs := #[.int .i64 0, .int .i64 0, .int .i64 0, .int .i64 0, .slice none 0 0]) ?_ 3 _ rfl; (with_reducible repeat (first | refine k2 ?_ _ | refine k3 ?_ | refine k1 ?_ _)); refine blk_put (cs := #[.int .i64 0, .int .i64 0, .int .i64 0, .int .i64 0, .slice none 0 0]) ?_ 2 _ rfl; (with_reducible repeat (first | refine k2 ?_ _ | refine k3 ?_ | refine k1 ?_ _)); refine blk_put (cs := #[.int .i64 0, .int .i64 0, .int .i64 0, .int .i64 0, .slice none 0 0]) ?_ 1 _ rfl; (with_reducible repeat (first | refine k2 ?_ _ | refine k3 ?_ | refine k1 ?_ _)); refine blk_put (cs := #[.int .i64 0, .int .i64 0, .int .i64 0, .int .i64 0, .slice none 0 0]) ?_ 0 _ rfl; (with_reducible repeat (first | refine k2 ?_ _ | refine k3 ?_ | refine k1 ?_ _)); exact BK136.out) Try.underlying24 rfl (by kernel_rfl)) rfl ?_
    exact ⟨_, by first | rfl | (simp [errW_none, errW_some] <;> rfl) | (simp [*, errW_none, errW_some] <;> rfl), by first | exact Kd.R_nil _ _ _ _ _ | exact Kd.N_nil _ _ _ _ _ | exact Kd.V_nil _ _ _ _ _ | exact Kd.Q_nil _ _ _ _ _ | exact Kd.S_nil _ _ _ _ _, by repeat (first | (with_reducible first | exact HB.out | apply b1 | apply b2 | apply b3 | refine below_set ?_ GE136.out) | exact HB.out)⟩
   ·replace c5 := Bool.eq_false_iff.mpr c5
    subst c5
    have H1 : (if 0 ≤ (wrap64 ((l0.length : Int) - 2)) then (if (wrap64 ((l0.length : Int) - 2)) ≤ (l0.length : Int) then ((sums_Short.f kj1 (l0.take ((wrap64 ((l0.length : Int) - 2)) : Int).toNat)).bind fun t139 => (if 0 < ((l0.drop ((wrap64 ((l0.length : Int) - 2)) : Int).toNat).length : Int) then (if 1 < ((l0.drop ((wrap64 ((l0.length : Int) - 2)) : Int).toNat).length : Int) then (if t139 = (Go.bits .or .i64 (wrap64 (rd (l0.drop ((wrap64 ((l0.length : Int) - 2)) : Int).toNat) 0)) (wrap64 ((wrap64 (rd (l0.drop ((wrap64 ((l0.length : Int) - 2)) : Int).toNat) 1)) * 256))) then (if 0 < (l0.length : Int) then (if 1 < (l0.length : Int) then (if 2 < (l0.length : Int) then (if 3 < (l0.length : Int) then (if 4 < (l0.length : Int) then (if 5 < (l0.length : Int) then (if 7 ≤ ((l0.take ((wrap64 ((l0.length : Int) - 2)) : Int).toNat).length : Int) then ((bytes_Clone.f ((l0.take ((wrap64 ((l0.length : Int) - 2)) : Int).toNat).drop 7)).bind fun t149 => ((frame_Bytes.f kj1 (wrap64 (rd l0 0)) (Go.bits .or .i64 (wrap64 ((wrap64 (rd l0 1)) * 256)) (wrap64 (rd l0 2))) (Go.bits .or .i64 (wrap64 ((wrap64 (rd l0 3)) * 256)) (wrap64 (rd l0 4))) (wrap64 (rd l0 5)) t149).bind fun bt153 => (if bt153.2 = 0 then ((bytes_Equal.f bt153.1 l0).bind fun t157 => (frame_Read.j1 kj1 (!t157) (wrap64 (rd l0 0)) (Go.bits .or .i64 (wrap64 ((wrap64 (rd l0 1)) * 256)) (wrap64 (rd l0 2))) (Go.bits .or .i64 (wrap64 ((wrap64 (rd l0 3)) * 256)) (wrap64 (rd l0 4))) (wrap64 (rd l0 5)) t149)) else (frame_Read.j1 kj1 true (wrap64 (rd l0 0)) (Go.bits .or .i64 (wrap64 ((wrap64 (rd l0 1)) * 256)) (wrap64 (rd l0 2))) (Go.bits .or .i64 (wrap64 ((wrap64 (rd l0 3)) * 256)) (wrap64 (rd l0 4))) (wrap64 (rd l0 5)) t149)))) else (none)) else (none)) else (none)) else (none)) else (none)) else (none)) else (none)) else (some (0, 0, 0, 0, ([] : List Int), 6))) else (none)) else (none))) else (none)) else (none)) = some (r1, r2, r3, r4, r5, r6) := by rw [if_neg (show ¬ (false = true) by decide)] at H; exact H
    clear H
    have H := H1
    clear H1
    obtain ⟨ji7, hji7⟩ : ∃ j_ : Int, (wrap64 ((l0.length : Int) - 2)) = j_ := ⟨_, rfl⟩
    replace H : (if 0 ≤ (ji7) then (if (ji7) ≤ (l0.length : Int) then ((sums_Short.f kj1 (l0.take ((ji7) : Int).toNat)).bind fun t139 => (if 0 < ((l0.drop ((ji7) : Int).toNat).length : Int) then (if 1 < ((l0.drop ((ji7) : Int).toNat).length : Int) then (if t139 = (Go.bits .or .i64 (wrap64 (rd (l0.drop ((ji7) : Int).toNat) 0)) (wrap64 ((wrap64 (rd (l0.drop ((ji7) : Int).toNat) 1)) * 256))) then (if 0 < (l0.length : Int) then (if 1 < (l0.length : Int) then (if 2 < (l0.length : Int) then (if 3 < (l0.length : Int) then (if 4 < (l0.length : Int) then (if 5 < (l0.length : Int) then (if 7 ≤ ((l0.take ((ji7) : Int).toNat).length : Int) then ((bytes_Clone.f ((l0.take ((ji7) : Int).toNat).drop 7)).bind fun t149 => ((frame_Bytes.f kj1 (wrap64 (rd l0 0)) (Go.bits .or .i64 (wrap64 ((wrap64 (rd l0 1)) * 256)) (wrap64 (rd l0 2))) (Go.bits .or .i64 (wrap64 ((wrap64 (rd l0 3)) * 256)) (wrap64 (rd l0 4))) (wrap64 (rd l0 5)) t149).bind fun bt153 => (if bt153.2 = 0 then ((bytes_Equal.f bt153.1 l0).bind fun t157 => (frame_Read.j1 kj1 (!t157) (wrap64 (rd l0 0)) (Go.bits .or .i64 (wrap64 ((wrap64 (rd l0 1)) * 256)) (wrap64 (rd l0 2))) (Go.bits .or .i64 (wrap64 ((wrap64 (rd l0 3)) * 256)) (wrap64 (rd l0 4))) (wrap64 (rd l0 5)) t149)) else (frame_Read.j1 kj1 true (wrap64 (rd l0 0)) (Go.bits .or .i64 (wrap64 ((wrap64 (rd l0 1)) * 256)) (wrap64 (rd l0 2))) (Go.bits .or .i64 (wrap64 ((wrap64 (rd l0 3)) * 256)) (wrap64 (rd l0 4))) (wrap64 (rd l0 5)) t149)))) else (none)) else (none)) else (none)) else (none)) else (none)) else (none)) else (none)) else (some (0, 0, 0, 0, ([] : List Int), 6))) else (none)) else (none))) else (none)) else (none)) = some (r1, r2, r3, r4, r5, r6) := by first | (rw [hji7] at H; exact H) | (simp only [hji7] at H ⊢; exact H)
    have hji7w : (IntKind.i64.wrap ((l0.length : Int) - 2)) = ji7 := (i64_w _).trans hji7
    by_cases c8 : 0 ≤ (ji7)
    ·rw [if_pos c8] at H
     have c8b0 := eq_true c8
     have c8b1 : decide (0 ≤ (ji7)) = true := decide_eq_true c8
     clear c8
     by_cases c9 : (ji7) ≤ (l0.length : Int)
     ·rw [if_pos c9] at H
      have c9b0 := eq_true c9
      have c9b1 : decide ((ji7) ≤ (l0.length : Int)) = true := decide_eq_true c9
      clear c9
      have c10b0 := eq_true (of_decide_eq_true (by first | (with_reducible assumption) | assumption) : 0 ≤ (ji7))
      have c11b0 := eq_true (of_decide_eq_true (by first | (with_reducible assumption) | assumption) : (ji7) ≤ (l0.length : Int))
      replace H := Option.bind_eq_some_iff.mp H
      obtain ⟨t139, A120, H⟩ := H
      replace H : (if 0 < ((l0.drop ((ji7) : Int).toNat).length : Int) then (if 1 < ((l0.drop ((ji7) : Int).toNat).length : Int) then (if t139 = (Go.bits .or .i64 (wrap64 (rd (l0.drop ((ji7) : Int).toNat) 0)) (wrap64 ((wrap64 (rd (l0.drop ((ji7) : Int).toNat) 1)) * 256))) then (if 0 < (l0.length : Int) then (if 1 < (l0.length : Int) then (if 2 < (l0.length : Int) then (if 3 < (l0.length : Int) then (if 4 < (l0.length : Int) then (if 5 < (l0.length : Int) then (if 7 ≤ ((l0.take ((ji7) : Int).toNat).length : Int) then ((bytes_Clone.f ((l0.take ((ji7) : Int).toNat).drop 7)).bind fun t149 => ((frame_Bytes.f kj1 (wrap64 (rd l0 0)) (Go.bits .or .i64 (wrap64 ((wrap64 (rd l0 1)) * 256)) (wrap64 (rd l0 2))) (Go.bits .or .i64 (wrap64 ((wrap64 (rd l0 3)) * 256)) (wrap64 (rd l0 4))) (wrap64 (rd l0 5)) t149).bind fun bt153 => (if bt153.2 = 0 then ((bytes_Equal.f bt153.1 l0).bind fun t157 => (frame_Read.j1 kj1 (!t157) (wrap64 (rd l0 0)) (Go.bits .or .i64 (wrap64 ((wrap64 (rd l0 1)) * 256)) (wrap64 (rd l0 2))) (Go.bits .or .i64 (wrap64 ((wrap64 (rd l0 3)) * 256)) (wrap64 (rd l0 4))) (wrap64 (rd l0 5)) t149)) else (frame_Read.j1 kj1 true (wrap64 (rd l0 0)) (Go.bits .or .i64 (wrap64 ((wrap64 (rd l0 1)) * 256)) (wrap64 (rd l0 2))) (Go.bits .or .i64 (wrap64 ((wrap64 (rd l0 3)) * 256)) (wrap64 (rd l0 4))) (wrap64 (rd l0 5)) t149)))) else (none)) else (none)) else (none)) else (none)) else (none)) else (none)) else (none)) else (some (0, 0, 0, 0, ([] : List Int), 6))) else (none)) else (none)) = some (r1, r2, r3, r4, r5, r6) := H
      have A12 := Aside0.mk A120
      clear A120
      by_cases c13 : 0 < ((l0.drop ((ji7) : Int).toNat).length : Int)
      ·rw [if_pos c13] at H
       have c13b0 : decide (0 < ((l0.drop ((ji7) : Int).toNat).length : Int)) = true := decide_eq_true c13
       have c13b1 : decide (0 < (l0.drop ((ji7) : Int).toNat).length) = true := decide_eq_true (by omega)
       clear c13
       by_cases c14 : 1 < ((l0.drop ((ji7) : Int).toNat).length : Int)
       ·rw [if_pos c14] at H
        have c14b0 : decide (1 < ((l0.drop ((ji7) : Int).toNat).length : Int)) = true := decide_eq_true c14
        have c14b1 : decide (1 < (l0.drop ((ji7) : Int).toNat).length) = true := decide_eq_true (by omega)
        clear c14
        by_cases c15 : t139 = (Go.bits .or .i64 (wrap64 (rd (l0.drop ((ji7) : Int).toNat) 0)) (wrap64 ((wrap64 (rd (l0.drop ((ji7) : Int).toNat) 1)) * 256)))
        ·rw [if_pos c15] at H
         have c15b0 : (t139 == (Go.bits .or .i64 (wrap64 (rd (l0.drop ((ji7) : Int).toNat) 0)) (wrap64 ((wrap64 (rd (l0.drop ((ji7) : Int).toNat) 1)) * 256)))) = true := beq_iff_eq.mpr c15
         have c15b1 : (t139 != (Go.bits .or .i64 (wrap64 (rd (l0.drop ((ji7) : Int).toNat) 0)) (wrap64 ((wrap64 (rd (l0.drop ((ji7) : Int).toNat) 1)) * 256)))) = false := bne_eq_false_iff_eq.mpr c15
         clear c15
         by_cases c16 : 0 < (l0.length : Int)
         ·rw [if_pos c16] at H
          have c16b0 : decide (0 < (l0.length : Int)) = true := decide_eq_true c16
          have c16b1 : decide (0 < l0.length) = true := decide_eq_true (by omega)
          clear c16
          by_cases c17 : 1 < (l0.length : Int)
          ·rw [if_pos c17] at H
           have c17b0 : decide (1 < (l0.length : Int)) = true := decide_eq_true c17
           have c17b1 : decide (1 < l0.length) = true := decide_eq_true (by omega)
           clear c17
           by_cases c18 : 2 < (l0.length : Int)
           ·rw [if_pos c18] at H
            have c18b0 : decide (2 < (l0.length : Int)) = true := decide_eq_true c18
            have c18b1 : decide (2 < l0.length) = true := decide_eq_true (by omega)
            clear c18
            by_cases c19 : 3 < (l0.length : Int)
            ·rw [if_pos c19] at H
             have c19b0 : decide (3 < (l0.length : Int)) = true := decide_eq_true c19
             have c19b1 : decide (3 < l0.length) = true := decide_eq_true (by omega)
             clear c19
             by_cases c20 : 4 < (l0.length : Int)
             ·rw [if_pos c20] at H
              have c20b0 : decide (4 < (l0.length : Int)) = true := decide_eq_true c20
              have c20b1 : decide (4 < l0.length) = true := decide_eq_true (by omega)
              clear c20
              by_cases c21 : 5 < (l0.length : Int)
              ·rw [if_pos c21] at H
               have c21b0 : decide (5 < (l0.length : Int)) = true := decide_eq_true c21
               have c21b1 : decide (5 < l0.length) = true := decide_eq_true (by omega)
               clear c21
               by_cases c22 : 7 ≤ ((l0.take ((ji7) : Int).toNat).length : Int)
               ·rw [if_pos c22] at H
                have c22b0 := eq_true c22
                have c22b1 : decide (7 ≤ ((l0.take ((ji7) : Int).toNat).length : Int)) = true := decide_eq_true c22
                clear c22
                replace H := Option.bind_eq_some_iff.mp H
                obtain ⟨t149, A230, H⟩ := H
                replace H : ((frame_Bytes.f kj1 (wrap64 (rd l0 0)) (Go.bits .or .i64 (wrap64 ((wrap64 (rd l0 1)) * 256)) (wrap64 (rd l0 2))) (Go.bits .or .i64 (wrap64 ((wrap64 (rd l0 3)) * 256)) (wrap64 (rd l0 4))) (wrap64 (rd l0 5)) t149).bind fun bt153 => (if bt153.2 = 0 then ((bytes_Equal.f bt153.1 l0).bind fun t157 => (frame_Read.j1 kj1 (!t157) (wrap64 (rd l0 0)) (Go.bits .or .i64 (wrap64 ((wrap64 (rd l0 1)) * 256)) (wrap64 (rd l0 2))) (Go.bits .or .i64 (wrap64 ((wrap64 (rd l0 3)) * 256)) (wrap64 (rd l0 4))) (wrap64 (rd l0 5)) t149)) else (frame_Read.j1 kj1 true (wrap64 (rd l0 0)) (Go.bits .or .i64 (wrap64 ((wrap64 (rd l0 1)) * 256)) (wrap64 (rd l0 2))) (Go.bits .or .i64 (wrap64 ((wrap64 (rd l0 3)) * 256)) (wrap64 (rd l0 4))) (wrap64 (rd l0 5)) t149))) = some (r1, r2, r3, r4, r5, r6) := H
                have A23 := Aside0.mk A230
                clear A230
                replace H := Option.bind_eq_some_iff.mp H
                obtain ⟨⟨t153, t156⟩, A240, H⟩ := H
                replace H : (if t156 = 0 then ((bytes_Equal.f t153 l0).bind fun t157 => (frame_Read.j1 kj1 (!t157) (wrap64 (rd l0 0)) (Go.bits .or .i64 (wrap64 ((wrap64 (rd l0 1)) * 256)) (wrap64 (rd l0 2))) (Go.bits .or .i64 (wrap64 ((wrap64 (rd l0 3)) * 256)) (wrap64 (rd l0 4))) (wrap64 (rd l0 5)) t149)) else (frame_Read.j1 kj1 true (wrap64 (rd l0 0)) (Go.bits .or .i64 (wrap64 ((wrap64 (rd l0 1)) * 256)) (wrap64 (rd l0 2))) (Go.bits .or .i64 (wrap64 ((wrap64 (rd l0 3)) * 256)) (wrap64 (rd l0 4))) (wrap64 (rd l0 5)) t149)) = some (r1, r2, r3, r4, r5, r6) := H
                have A24 := Aside0.mk A240
                clear A240
                have HC25 := Aside0.mk H
                clear H
                try go_wp2
                have n0_ := Aside0.mk (blk_drew BK136.out)
                have n1_ := Aside0.mk (below_drew1 HB.out)
                clear BK136
                clear HB
                have BK136 := n0_
                have HB := n1_
                clear n0_ n1_
                obtain ⟨i027, hi027, _, hsz27, _⟩ := info_parts info5
                obtain ⟨hcut27, hA27, hC27⟩ := print_take_of (P := Try.prog) (Value.int .u8) 0 22 5 .i64 Try.underlying22 hi027 hsz27 A0 c0 l0 (ji7) (of_decide_eq_true (by first | (with_reducible assumption) | assumption)) (of_decide_eq_true (by first | (with_reducible assumption) | assumption)) HC0.out
                have HR137 := Aside0.mk (Kd.C_of_reads (h1 := fun _ => rfl) (hA27 _ (Kd.reads_of_C HR0.out)))
                have HC137 := Aside0.mk hC27
                clear hA27 hC27 hi027 hsz27
                obtain ⟨i028, hi028, _, hsz28, _⟩ := info_parts info5
                obtain ⟨A28, hcut28, hA28, hC28⟩ := print_drop_of (P := Try.prog) (Value.int .u8) 0 22 5 .i64 Try.underlying22 hi028 hsz28 A0 c0 l0 (ji7) (of_decide_eq_true (by first | (with_reducible assumption) | assumption)) (of_decide_eq_true (by first | (with_reducible assumption) | assumption)) HC0.out
                have HR138 := Aside0.mk (Kd.C_of_reads (h1 := fun _ => rfl) (hA28 _ (Kd.reads_of_C HR0.out)))
                have HC138 := Aside0.mk hC28
                clear hA28 hC28 hi028 hsz28
                refine start_ (n := 12) (S := fun w' => True) (ds := []) (bu 12 0) (by kernel_rfl) rfl rfl trivial (fun hHeld => ?_); refine with_tabW frame_Read.tab3 frame_Read.bits3 (fun HT_ HW_ => ?_)
                generalize wc.drew = w26 at BK136 HB HR137 HR138 hHeld ⊢
                refine pA 0 18 (bu 12 1) ?_ HT_ rfl rfl (.inl ⟨by rfl, ?_⟩) ?_ ?_ ?_; rotate_left; (focus intro w'; go_simp; with_reducible rfl); rotate_left; (focus simp only [pk]; rfl)
                refine pA 1 19 (bu 12 2) ?_ HT_ rfl rfl (.inl ⟨by rfl, ?_⟩) ?_ ?_ ?_; rotate_left; (focus intro w'; go_simp; with_reducible rfl); rotate_left; (focus simp only [pk]; rfl)
                refine pA 2 20 (bu 12 3) ?_ HT_ rfl rfl (.inl ⟨by rfl, ?_⟩) ?_ ?_ ?_; rotate_left; (focus intro w'; go_simp; with_reducible rfl); rotate_left; (focus simp only [pk]; rfl)
                refine pA 3 21 (bu 12 4) ?_ HT_ rfl rfl (.inl ⟨by rfl, ?_⟩) ?_ ?_ ?_; rotate_left; (focus intro w'; go_simp; with_reducible rfl); rotate_left; (focus simp only [pk]; rfl)
                refine pA 4 22 (bu 12 5) ?_ HT_ rfl rfl (.inl ⟨by rfl, ?_⟩) ?_ ?_ ?_; rotate_left; (focus intro w'; go_simp; with_reducible rfl); rotate_left; (focus simp only [pk]; rfl)
                refine pA 5 23 (bu 12 6) ?_ HT_ rfl rfl (.inl ⟨by rfl, ?_⟩) ?_ ?_ ?_; rotate_left; (focus intro w'; go_simp; with_reducible rfl); rotate_left; (focus simp only [pk]; rfl)
                refine pA 6 24 (bu 12 7) ?_ HT_ rfl rfl (.inl ⟨by rfl, ?_⟩) ?_ ?_ ?_; rotate_left; (focus intro w'; go_simp; with_reducible rfl); rotate_left; (focus simp only [pk]; rfl)
                refine pA 7 25 (bu 12 8) ?_ HT_ rfl rfl (.inl ⟨by rfl, ?_⟩) ?_ ?_ ?_; rotate_left; (focus intro w'; go_simp; with_reducible rfl); rotate_left; (focus simp only [pk]; rfl)
                refine pA 8 26 (bu 12 9) ?_ HT_ rfl rfl (.inl ⟨by rfl, ?_⟩) ?_ ?_ ?_; rotate_left; (focus intro w'; go_simp; with_reducible rfl); rotate_left; (focus simp only [pk]; rfl)
                refine pA 9 27 (bu 12 10) ?_ HT_ rfl rfl (.inl ⟨by rfl, ?_⟩) ?_ ?_ ?_; rotate_left; (focus intro w'; go_simp; with_reducible rfl); rotate_left; (focus simp only [pk]; rfl)
                refine pA 10 4 (bu 12 11) ?_ HT_ rfl rfl (.inl ⟨by rfl, ?_⟩) ?_ ?_ ?_; rotate_left; (focus intro w'; go_simp; with_reducible rfl); rotate_left; (focus simp only [pk]; rfl)
                refine pA 11 5 (bu 12 12) ?_ HT_ rfl rfl (.inl ⟨by rfl, ?_⟩) ?_ ?_ ?_; rotate_left; (focus intro w'; go_simp; with_reducible rfl); rotate_left; (focus simp only [pk]; rfl)
                refine done_ (done_of HT_.out (by kernel_rfl)) ?_
                try go_wp2
                have n0_ := Aside0.mk (blk_drew BK136.out)
                have n1_ := Aside0.mk (below_drew1 HB.out)
                clear BK136
                clear HB
                have BK136 := n0_
                have HB := n1_
                clear n0_ n1_
                have p140 : 0 ≤ (0 : Int) := (by omega)
                have q140 : 0 < ((l0.drop ((ji7) : Int).toNat).length : Int) := of_decide_eq_true (by first | (with_reducible assumption) | assumption)
                obtain ⟨ad140, e140, hx140_0⟩ := Kd.at_int HR138.out 0 p140 q140
                have hw140_0 := hx140_0
                (try rw [show ((0 : Int)).toNat = 0 from rfl] at hw140_0)
                (try rw [show 0 * 1 = 0 from rfl] at hw140_0)
                (try rw [Addr.add_zero'] at hw140_0)
                cases e140
                have qi140 : (0 < (l0.drop ((ji7) : Int).toNat).length) = True := eq_true (by omega)
                (try (have qi140d := qi140; simp only [List.length_drop, List.length_take] at qi140d))
                (try rw [show ((0 : Int)).toNat = 0 from rfl] at hx140_0)
                (try rw [Addr.add_zero'] at hx140_0)
                replace hx140_0 := (HB.out.cell (World.block_lt_of_cell? w _ hx140_0)).trans hx140_0
                replace p140 := eq_true p140
                replace q140 := eq_true q140
                (try (have q140d := q140; simp only [List.length_drop, List.length_take] at q140d))
                have p141 : 0 ≤ (1 : Int) := (by omega)
                have q141 : 1 < ((l0.drop ((ji7) : Int).toNat).length : Int) := of_decide_eq_true (by first | (with_reducible assumption) | assumption)
                obtain ⟨ad141, e141, hx141_0⟩ := Kd.at_int HR138.out 1 p141 q141
                have hw141_0 := hx141_0
                (try rw [show ((1 : Int)).toNat = 1 from rfl] at hw141_0)
                (try rw [show 1 * 1 = 1 from rfl] at hw141_0)
                (try simp only [Nat.reduceMul, Nat.reduceEqDiff, Go.Addr.add, ↓reduceIte] at hw141_0)
                obtain rfl : ad140 = ad141 := (by injection e141)
                (try simp only [show (1 : Int).toNat = 1 from rfl, Nat.reduceMul, Nat.reduceEqDiff, Go.Addr.add, ↓reduceIte] at hx141_0)
                have qi141 : (1 < (l0.drop ((ji7) : Int).toNat).length) = True := eq_true (by omega)
                (try (have qi141d := qi141; simp only [List.length_drop, List.length_take] at qi141d))
                (try rw [show ((1 : Int)).toNat = 1 from rfl] at hx141_0)
                replace hx141_0 := (HB.out.cell (World.block_lt_of_cell? w _ hx141_0)).trans hx141_0
                replace p141 := eq_true p141
                replace q141 := eq_true q141
                (try (have q141d := q141; simp only [List.length_drop, List.length_take] at q141d))
                refine start_ (n := 13) (S := fun w' => w'.cell? ad140 = some (.int .u8 (rd (l0.drop ((ji7) : Int).toNat) 0)) ∧ w'.cell? ⟨ad140.block, ad140.off + 1, none⟩ = some (.int .u8 (rd (l0.drop ((ji7) : Int).toNat) 1))) (ds := []) (bu 13 0) (by kernel_rfl) rfl rfl ⟨((HB.out.cell (World.block_lt_of_cell? w _ hw140_0)).trans hw140_0), ((HB.out.cell (World.block_lt_of_cell? w _ hw141_0)).trans hw141_0)⟩ (fun hHeld => ?_); refine with_tabW frame_Read.tab4 frame_Read.bits4 (fun HT_ HW_ => ?_)
                generalize w26.drew = w29 at BK136 HB hx140_0 hx141_0 hHeld ⊢
                refine pA 0 28 (bu 13 1) ?_ HT_ rfl rfl (.inl ⟨by rfl, ?_⟩) ?_ ?_ ?_; rotate_left; (focus intro w'; go_simp; with_reducible rfl); rotate_left; (focus simp only [pk]; rfl)
                refine pA 2 30 (bm 13 0x5) ?_ HT_ rfl rfl (.inl ⟨by rfl, ?_⟩) ?_ ?_ ?_; rotate_left; (focus intro w'; go_simp; with_reducible rfl); rotate_left; (focus simp only [pk]; rfl)
                refine pA 3 31 (bm 13 0xd) ?_ HT_ rfl rfl (.inl ⟨by rfl, ?_⟩) ?_ ?_ ?_; rotate_left; (focus intro w'; go_simp; with_reducible rfl); rotate_left; (focus simp only [pk]; rfl)
                refine pA 6 34 (bm 13 0x4d) ?_ HT_ rfl rfl (.inl ⟨by rfl, ?_⟩) ?_ ?_ ?_; rotate_left; (focus intro w'; go_simp; with_reducible rfl); rotate_left; (focus simp only [pk]; rfl)
                refine pA 7 35 (bm 13 0xcd) ?_ HT_ rfl rfl (.inl ⟨by rfl, ?_⟩) ?_ ?_ ?_; rotate_left; (focus intro w'; go_simp; with_reducible rfl); rotate_left; (focus simp only [pk]; rfl)
                refine tA 4 32 (bm 13 0xdd) ?_ HT_ HW_ rfl rfl (.inl ⟨by rfl, ?_⟩) hHeld ?_ ?_ ?_; rotate_left; (focus rintro w' ⟨s0, s1⟩; go_simp; with_reducible rfl); rotate_left; (focus simp only [pk]; rfl)
                refine pA 5 33 (bm 13 0xfd) ?_ HT_ rfl rfl (.inl ⟨by rfl, ?_⟩) ?_ ?_ ?_; rotate_left; (focus intro w'; go_simp; with_reducible rfl); rotate_left; (focus simp only [pk]; rfl)
                refine tA 8 36 (bm 13 0x1fd) ?_ HT_ HW_ rfl rfl (.inl ⟨by rfl, ?_⟩) hHeld ?_ ?_ ?_; rotate_left; (focus rintro w' ⟨s0, s1⟩; go_simp; with_reducible rfl); rotate_left; (focus simp only [pk]; rfl)
                refine pA 9 37 (bm 13 0x3fd) ?_ HT_ rfl rfl (.inl ⟨by rfl, ?_⟩) ?_ ?_ ?_; rotate_left; (focus intro w'; go_simp; with_reducible rfl); rotate_left; (focus simp only [pk]; rfl)
                refine pA 10 38 (bm 13 0x7fd) ?_ HT_ rfl rfl (.inl ⟨by rfl, ?_⟩) ?_ ?_ ?_; rotate_left; (focus intro w'; go_simp; with_reducible rfl); rotate_left; (focus simp only [pk]; rfl)
                refine pA 11 39 (bm 13 0xffd) ?_ HT_ rfl rfl (.inl ⟨by rfl, ?_⟩) ?_ ?_ ?_; rotate_left; (focus intro w'; go_simp; with_reducible rfl); rotate_left; (focus simp only [pk]; rfl)
                refine one_ (i := 1) (N := some 29) (bu 13 12) rfl rfl (one_of HT_.out (by kernel_rfl)) (by decide) (fun K hK => ?_)
                refine goes_ Try.func25 (by kernel_rfl) rfl #[.slice A0 (l0.take ((ji7) : Int).toNat).length c0] (by rfl) rfl rfl (by (try simp only [List.map_toArray, List.map_cons, List.map_nil]); first | done | (rw [show (l0.take ((ji7) : Int).toNat).length = (ji7).toNat from (by rw [List.length_take]; have h_ : ((ji7) : Int) ≤ (l0.length : Int) := of_decide_eq_true (by first | (with_reducible assumption) | assumption); omega)] <;> rfl) | (simp only [hji7]; rfl) | rfl | (simp only [List.length_drop, List.length_take]; rfl) | (go_simp; done) | (go_simp; rfl)) ?_
                with_reducible refine (sums_Short.calls kj1 _ _ (l0.take ((ji7) : Int).toNat) t139 _ ?side1 ?side2 A12.out).mono ?_
                (case side1 => first | with_reducible exact (Kd.C_below HR137.out HB.out) | exact sC ((Kd.C_below HR137.out HB.out)))
                (case side2 => exact HC137.out)
                rintro e w30 ⟨rfl, hb⟩
                refine ⟨_, rfl, ?_⟩
                have n0_ := Aside0.mk (bK BK136.out hb)
                have n1_ := Aside0.mk (below_step (by repeat (first | (with_reducible first | exact HB.out | apply b1 | apply b2 | apply b3 | refine below_set ?_ GE136.out) | exact HB.out)) hb)
                clear BK136
                clear HB
                have BK136 := n0_
                have HB := n1_
                clear n0_ n1_
                (try clear hb)
                (try clear hb2)
                (try clear hk)
                (try clear hi)
                refine hK.out _ _ ⟨((HB.out.cell (World.block_lt_of_cell? w _ hw140_0)).trans hw140_0), ((HB.out.cell (World.block_lt_of_cell? w _ hw141_0)).trans hw141_0)⟩ (fun hHeld => ?_)
                clear hK K
                refine norm_ (a' := ?_) ?_ ?_
                rotate_left
                ·show Act.put _ (some 29) _ = _
                 simp only [Act.put, List.setIfInBounds_toArray, List.set_cons_zero, List.set_cons_succ, i64_w, i32_w]
                 rfl
                refine pA 12 40 (bu 13 13) ?_ HT_ rfl rfl (.inl ⟨by rfl, ?_⟩) ?_ ?_ ?_; rotate_left; (focus intro w'; go_simp; with_reducible rfl); rotate_left; (focus simp only [pk]; rfl)
                refine done_ (done_of HT_.out (by kernel_rfl)) ?_
                try go_wp2
                have n0_ := Aside0.mk (blk_drew BK136.out)
                have n1_ := Aside0.mk (below_drew1 HB.out)
                clear BK136
                clear HB
                have BK136 := n0_
                have HB := n1_
                clear n0_ n1_
                have p142 : 0 ≤ (0 : Int) := (by omega)
                have q142 : 0 < (l0.length : Int) := of_decide_eq_true (by first | (with_reducible assumption) | assumption)
                obtain ⟨ad142, e142, hx142_0⟩ := Kd.at_int HR0.out 0 p142 q142
                have hw142_0 := hx142_0
                (try rw [show ((0 : Int)).toNat = 0 from rfl] at hw142_0)
                (try rw [show 0 * 1 = 0 from rfl] at hw142_0)
                (try rw [Addr.add_zero'] at hw142_0)
                cases e142
                have qi142 : (0 < l0.length) = True := eq_true (by omega)
                (try rw [show ((0 : Int)).toNat = 0 from rfl] at hx142_0)
                (try rw [Addr.add_zero'] at hx142_0)
                replace hx142_0 := (HB.out.cell (World.block_lt_of_cell? w _ hx142_0)).trans hx142_0
                replace p142 := eq_true p142
                replace q142 := eq_true q142
                have p143 : 0 ≤ (1 : Int) := (by omega)
                have q143 : 1 < (l0.length : Int) := of_decide_eq_true (by first | (with_reducible assumption) | assumption)
                obtain ⟨ad143, e143, hx143_0⟩ := Kd.at_int HR0.out 1 p143 q143
                have hw143_0 := hx143_0
                (try rw [show ((1 : Int)).toNat = 1 from rfl] at hw143_0)
                (try rw [show 1 * 1 = 1 from rfl] at hw143_0)
                (try simp only [Nat.reduceMul, Nat.reduceEqDiff, Go.Addr.add, ↓reduceIte] at hw143_0)
                obtain rfl : ad142 = ad143 := (by injection e143)
                (try simp only [show (1 : Int).toNat = 1 from rfl, Nat.reduceMul, Nat.reduceEqDiff, Go.Addr.add, ↓reduceIte] at hx143_0)
                have qi143 : (1 < l0.length) = True := eq_true (by omega)
                (try rw [show ((1 : Int)).toNat = 1 from rfl] at hx143_0)
                replace hx143_0 := (HB.out.cell (World.block_lt_of_cell? w _ hx143_0)).trans hx143_0
                replace p143 := eq_true p143
                replace q143 := eq_true q143
                have p144 : 0 ≤ (2 : Int) := (by omega)
                have q144 : 2 < (l0.length : Int) := of_decide_eq_true (by first | (with_reducible assumption) | assumption)
                obtain ⟨ad144, e144, hx144_0⟩ := Kd.at_int HR0.out 2 p144 q144
                have hw144_0 := hx144_0
                (try rw [show ((2 : Int)).toNat = 2 from rfl] at hw144_0)
                (try rw [show 2 * 1 = 2 from rfl] at hw144_0)
                (try simp only [Nat.reduceMul, Nat.reduceEqDiff, Go.Addr.add, ↓reduceIte] at hw144_0)
                obtain rfl : ad142 = ad144 := (by injection e144)
                (try simp only [show (2 : Int).toNat = 2 from rfl, Nat.reduceMul, Nat.reduceEqDiff, Go.Addr.add, ↓reduceIte] at hx144_0)
                have qi144 : (2 < l0.length) = True := eq_true (by omega)
                (try rw [show ((2 : Int)).toNat = 2 from rfl] at hx144_0)
                replace hx144_0 := (HB.out.cell (World.block_lt_of_cell? w _ hx144_0)).trans hx144_0
                replace p144 := eq_true p144
                replace q144 := eq_true q144
                have p145 : 0 ≤ (3 : Int) := (by omega)
                have q145 : 3 < (l0.length : Int) := of_decide_eq_true (by first | (with_reducible assumption) | assumption)
                obtain ⟨ad145, e145, hx145_0⟩ := Kd.at_int HR0.out 3 p145 q145
                have hw145_0 := hx145_0
                (try rw [show ((3 : Int)).toNat = 3 from rfl] at hw145_0)
                (try rw [show 3 * 1 = 3 from rfl] at hw145_0)
                (try simp only [Nat.reduceMul, Nat.reduceEqDiff, Go.Addr.add, ↓reduceIte] at hw145_0)
                obtain rfl : ad142 = ad145 := (by injection e145)
                (try simp only [show (3 : Int).toNat = 3 from rfl, Nat.reduceMul, Nat.reduceEqDiff, Go.Addr.add, ↓reduceIte] at hx145_0)
                have qi145 : (3 < l0.length) = True := eq_true (by omega)
                (try rw [show ((3 : Int)).toNat = 3 from rfl] at hx145_0)
                replace hx145_0 := (HB.out.cell (World.block_lt_of_cell? w _ hx145_0)).trans hx145_0
                replace p145 := eq_true p145
                replace q145 := eq_true q145
                have p146 : 0 ≤ (4 : Int) := (by omega)
                have q146 : 4 < (l0.length : Int) := of_decide_eq_true (by first | (with_reducible assumption) | assumption)
                obtain ⟨ad146, e146, hx146_0⟩ := Kd.at_int HR0.out 4 p146 q146
                have hw146_0 := hx146_0
                (try rw [show ((4 : Int)).toNat = 4 from rfl] at hw146_0)
                (try rw [show 4 * 1 = 4 from rfl] at hw146_0)
                (try simp only [Nat.reduceMul, Nat.reduceEqDiff, Go.Addr.add, ↓reduceIte] at hw146_0)
                obtain rfl : ad142 = ad146 := (by injection e146)
                (try simp only [show (4 : Int).toNat = 4 from rfl, Nat.reduceMul, Nat.reduceEqDiff, Go.Addr.add, ↓reduceIte] at hx146_0)
                have qi146 : (4 < l0.length) = True := eq_true (by omega)
                (try rw [show ((4 : Int)).toNat = 4 from rfl] at hx146_0)
                replace hx146_0 := (HB.out.cell (World.block_lt_of_cell? w _ hx146_0)).trans hx146_0
                replace p146 := eq_true p146
                replace q146 := eq_true q146
                have p147 : 0 ≤ (5 : Int) := (by omega)
                have q147 : 5 < (l0.length : Int) := of_decide_eq_true (by first | (with_reducible assumption) | assumption)
                obtain ⟨ad147, e147, hx147_0⟩ := Kd.at_int HR0.out 5 p147 q147
                have hw147_0 := hx147_0
                (try rw [show ((5 : Int)).toNat = 5 from rfl] at hw147_0)
                (try rw [show 5 * 1 = 5 from rfl] at hw147_0)
                (try simp only [Nat.reduceMul, Nat.reduceEqDiff, Go.Addr.add, ↓reduceIte] at hw147_0)
                obtain rfl : ad142 = ad147 := (by injection e147)
                (try simp only [show (5 : Int).toNat = 5 from rfl, Nat.reduceMul, Nat.reduceEqDiff, Go.Addr.add, ↓reduceIte] at hx147_0)
                have qi147 : (5 < l0.length) = True := eq_true (by omega)
                (try rw [show ((5 : Int)).toNat = 5 from rfl] at hx147_0)
                replace hx147_0 := (HB.out.cell (World.block_lt_of_cell? w _ hx147_0)).trans hx147_0
                replace p147 := eq_true p147
                replace q147 := eq_true q147
                obtain ⟨i032, hi032, _, hsz32, _⟩ := info_parts info5
                obtain ⟨A32, hcut32, hA32, hC32⟩ := print_drop_of (P := Try.prog) (Value.int .u8) 0 22 5 .i64 Try.underlying22 hi032 hsz32 (some ad142) c0 (l0.take ((ji7) : Int).toNat) 7 (by omega) (of_decide_eq_true (by first | (with_reducible assumption) | assumption)) HC137.out
                have HR148 := Aside0.mk (Kd.C_of_reads (h1 := fun _ => rfl) (hA32 _ (Kd.reads_of_C HR137.out)))
                have HC148 := Aside0.mk hC32
                clear hA32 hC32 hi032 hsz32
                (try (have hlt32 : (l0.take ((ji7) : Int).toNat).length = (ji7).toNat := (by rw [List.length_take]; have h_ : ((ji7) : Int) ≤ (l0.length : Int) := of_decide_eq_true (by first | (with_reducible assumption) | assumption); omega)))
                (try (have hcuts32 := hcut32; rw [hlt32] at hcuts32; clear hlt32))
                refine start_ (n := 34) (S := fun w' => w'.cell? ad142 = some (.int .u8 (rd l0 0)) ∧ w'.cell? ⟨ad142.block, ad142.off + 1, none⟩ = some (.int .u8 (rd l0 1)) ∧ w'.cell? ⟨ad142.block, ad142.off + 2, none⟩ = some (.int .u8 (rd l0 2)) ∧ w'.cell? ⟨ad142.block, ad142.off + 3, none⟩ = some (.int .u8 (rd l0 3)) ∧ w'.cell? ⟨ad142.block, ad142.off + 4, none⟩ = some (.int .u8 (rd l0 4)) ∧ w'.cell? ⟨ad142.block, ad142.off + 5, none⟩ = some (.int .u8 (rd l0 5))) (ds := []) (bu 34 0) (by kernel_rfl) rfl rfl ⟨((HB.out.cell (World.block_lt_of_cell? w _ hw142_0)).trans hw142_0), ((HB.out.cell (World.block_lt_of_cell? w _ hw143_0)).trans hw143_0), ((HB.out.cell (World.block_lt_of_cell? w _ hw144_0)).trans hw144_0), ((HB.out.cell (World.block_lt_of_cell? w _ hw145_0)).trans hw145_0), ((HB.out.cell (World.block_lt_of_cell? w _ hw146_0)).trans hw146_0), ((HB.out.cell (World.block_lt_of_cell? w _ hw147_0)).trans hw147_0)⟩ (fun hHeld => ?_); refine with_tabW frame_Read.tab6 frame_Read.bits6 (fun HT_ HW_ => ?_)
                generalize w30.drew = w31 at BK136 HB HR148 hx142_0 hx143_0 hx144_0 hx145_0 hx146_0 hx147_0 hHeld ⊢
                refine pA 0 42 (bu 34 1) ?_ HT_ rfl rfl (.inl ⟨by rfl, ?_⟩) ?_ ?_ ?_; rotate_left; (focus intro w'; go_simp; with_reducible rfl); rotate_left; (focus simp only [pk]; rfl)
                refine pA 1 43 (bu 34 2) ?_ HT_ rfl rfl (.inl ⟨by rfl, ?_⟩) ?_ ?_ ?_; rotate_left; (focus intro w'; go_simp; with_reducible rfl); rotate_left; (focus simp only [pk]; rfl)
                refine pA 4 46 (bm 34 0x13) ?_ HT_ rfl rfl (.inl ⟨by rfl, ?_⟩) ?_ ?_ ?_; rotate_left; (focus intro w'; go_simp; with_reducible rfl); rotate_left; (focus simp only [pk]; rfl)
                refine pA 5 47 (bm 34 0x33) ?_ HT_ rfl rfl (.inl ⟨by rfl, ?_⟩) ?_ ?_ ?_; rotate_left; (focus intro w'; go_simp; with_reducible rfl); rotate_left; (focus simp only [pk]; rfl)
                refine pA 9 51 (bm 34 0x233) ?_ HT_ rfl rfl (.inl ⟨by rfl, ?_⟩) ?_ ?_ ?_; rotate_left; (focus intro w'; go_simp; with_reducible rfl); rotate_left; (focus simp only [pk]; rfl)
                refine pA 10 52 (bm 34 0x633) ?_ HT_ rfl rfl (.inl ⟨by rfl, ?_⟩) ?_ ?_ ?_; rotate_left; (focus intro w'; go_simp; with_reducible rfl); rotate_left; (focus simp only [pk]; rfl)
                refine pA 14 56 (bm 34 0x4633) ?_ HT_ rfl rfl (.inl ⟨by rfl, ?_⟩) ?_ ?_ ?_; rotate_left; (focus intro w'; go_simp; with_reducible rfl); rotate_left; (focus simp only [pk]; rfl)
                refine pA 15 57 (bm 34 0xc633) ?_ HT_ rfl rfl (.inl ⟨by rfl, ?_⟩) ?_ ?_ ?_; rotate_left; (focus intro w'; go_simp; with_reducible rfl); rotate_left; (focus simp only [pk]; rfl)
                refine pA 19 61 (bm 34 0x8c633) ?_ HT_ rfl rfl (.inl ⟨by rfl, ?_⟩) ?_ ?_ ?_; rotate_left; (focus intro w'; go_simp; with_reducible rfl); rotate_left; (focus simp only [pk]; rfl)
                refine pA 20 62 (bm 34 0x18c633) ?_ HT_ rfl rfl (.inl ⟨by rfl, ?_⟩) ?_ ?_ ?_; rotate_left; (focus intro w'; go_simp; with_reducible rfl); rotate_left; (focus simp only [pk]; rfl)
                refine pA 24 66 (bm 34 0x118c633) ?_ HT_ rfl rfl (.inl ⟨by rfl, ?_⟩) ?_ ?_ ?_; rotate_left; (focus intro w'; go_simp; with_reducible rfl); rotate_left; (focus simp only [pk]; rfl)
                refine pA 25 67 (bm 34 0x318c633) ?_ HT_ rfl rfl (.inl ⟨by rfl, ?_⟩) ?_ ?_ ?_; rotate_left; (focus intro w'; go_simp; with_reducible rfl); rotate_left; (focus simp only [pk]; rfl)
                refine pA 28 70 (bm 34 0x1318c633) ?_ HT_ rfl rfl (.inl ⟨by rfl, ?_⟩) ?_ ?_ ?_; rotate_left; (focus intro w'; go_simp; with_reducible rfl); rotate_left; (focus simp only [pk]; rfl)
                refine pA 29 71 (bm 34 0x3318c633) ?_ HT_ rfl rfl (.inl ⟨by rfl, ?_⟩) ?_ ?_ ?_; rotate_left; (focus intro w'; go_simp; with_reducible rfl); rotate_left; (focus simp only [pk]; rfl)
                refine tA 2 44 (bm 34 0x3318c637) ?_ HT_ HW_ rfl rfl (.inl ⟨by rfl, ?_⟩) hHeld ?_ ?_ ?_; rotate_left; (focus rintro w' ⟨s0, s1, s2, s3, s4, s5⟩; go_simp; with_reducible rfl); rotate_left; (focus simp only [pk]; rfl)
                refine pA 3 45 (bm 34 0x3318c63f) ?_ HT_ rfl rfl (.inl ⟨by rfl, ?_⟩) ?_ ?_ ?_; rotate_left; (focus intro w'; go_simp; with_reducible rfl); rotate_left; (focus simp only [pk]; rfl)
                refine tA 6 48 (bm 34 0x3318c67f) ?_ HT_ HW_ rfl rfl (.inl ⟨by rfl, ?_⟩) hHeld ?_ ?_ ?_; rotate_left; (focus rintro w' ⟨s0, s1, s2, s3, s4, s5⟩; go_simp; with_reducible rfl); rotate_left; (focus simp only [pk]; rfl)
                refine pA 7 49 (bm 34 0x3318c6ff) ?_ HT_ rfl rfl (.inl ⟨by rfl, ?_⟩) ?_ ?_ ?_; rotate_left; (focus intro w'; go_simp; with_reducible rfl); rotate_left; (focus simp only [pk]; rfl)
                refine pA 8 50 (bm 34 0x3318c7ff) ?_ HT_ rfl rfl (.inl ⟨by rfl, ?_⟩) ?_ ?_ ?_; rotate_left; (focus intro w'; go_simp; with_reducible rfl); rotate_left; (focus simp only [pk]; rfl)
                refine tA 11 53 (bm 34 0x3318cfff) ?_ HT_ HW_ rfl rfl (.inl ⟨by rfl, ?_⟩) hHeld ?_ ?_ ?_; rotate_left; (focus rintro w' ⟨s0, s1, s2, s3, s4, s5⟩; go_simp; with_reducible rfl); rotate_left; (focus simp only [pk]; rfl)
                refine pA 12 54 (bm 34 0x3318dfff) ?_ HT_ rfl rfl (.inl ⟨by rfl, ?_⟩) ?_ ?_ ?_; rotate_left; (focus intro w'; go_simp; with_reducible rfl); rotate_left; (focus simp only [pk]; rfl)
                refine pA 13 55 (bm 34 0x3318ffff) ?_ HT_ rfl rfl (.inl ⟨by rfl, ?_⟩) ?_ ?_ ?_; rotate_left; (focus intro w'; go_simp; with_reducible rfl); rotate_left; (focus simp only [pk]; rfl)
                refine tA 16 58 (bm 34 0x3319ffff) ?_ HT_ HW_ rfl rfl (.inl ⟨by rfl, ?_⟩) hHeld ?_ ?_ ?_; rotate_left; (focus rintro w' ⟨s0, s1, s2, s3, s4, s5⟩; go_simp; with_reducible rfl); rotate_left; (focus simp only [pk]; rfl)
                refine pA 17 59 (bm 34 0x331bffff) ?_ HT_ rfl rfl (.inl ⟨by rfl, ?_⟩) ?_ ?_ ?_; rotate_left; (focus intro w'; go_simp; with_reducible rfl); rotate_left; (focus simp only [pk]; rfl)
                refine pA 18 60 (bm 34 0x331fffff) ?_ HT_ rfl rfl (.inl ⟨by rfl, ?_⟩) ?_ ?_ ?_; rotate_left; (focus intro w'; go_simp; with_reducible rfl); rotate_left; (focus simp only [pk]; rfl)
                refine tA 21 63 (bm 34 0x333fffff) ?_ HT_ HW_ rfl rfl (.inl ⟨by rfl, ?_⟩) hHeld ?_ ?_ ?_; rotate_left; (focus rintro w' ⟨s0, s1, s2, s3, s4, s5⟩; go_simp; with_reducible rfl); rotate_left; (focus simp only [pk]; rfl)
                refine pA 22 64 (bm 34 0x337fffff) ?_ HT_ rfl rfl (.inl ⟨by rfl, ?_⟩) ?_ ?_ ?_; rotate_left; (focus intro w'; go_simp; with_reducible rfl); rotate_left; (focus simp only [pk]; rfl)
                refine pA 23 65 (bm 34 0x33ffffff) ?_ HT_ rfl rfl (.inl ⟨by rfl, ?_⟩) ?_ ?_ ?_; rotate_left; (focus intro w'; go_simp; with_reducible rfl); rotate_left; (focus simp only [pk]; rfl)
                refine tA 26 68 (bm 34 0x37ffffff) ?_ HT_ HW_ rfl rfl (.inl ⟨by rfl, ?_⟩) hHeld ?_ ?_ ?_; rotate_left; (focus rintro w' ⟨s0, s1, s2, s3, s4, s5⟩; go_simp; with_reducible rfl); rotate_left; (focus simp only [pk]; rfl)
                refine pA 27 69 (bu 34 30) ?_ HT_ rfl rfl (.inl ⟨by rfl, ?_⟩) ?_ ?_ ?_; rotate_left; (focus intro w'; go_simp; with_reducible rfl); rotate_left; (focus simp only [pk]; rfl)
                refine join_ (σ := Value × Nat) 1 (bu 34 33) (fun s_ => [(72, s_.1), (6, .pointer (some ⟨s_.2, 0, none⟩)), (73, .agg #[.int .i64 (wrap64 (rd l0 0)), .int .i64 (Go.bits .or .i64 (wrap64 ((wrap64 (rd l0 1)) * 256)) (wrap64 (rd l0 2))), .int .i64 (Go.bits .or .i64 (wrap64 ((wrap64 (rd l0 3)) * 256)) (wrap64 (rd l0 4))), .int .i64 (wrap64 (rd l0 5)), s_.1])]) (fun s_ w' => (w'.cell? ad142 = some (.int .u8 (rd l0 0)) ∧ w'.cell? ⟨ad142.block, ad142.off + 1, none⟩ = some (.int .u8 (rd l0 1)) ∧ w'.cell? ⟨ad142.block, ad142.off + 2, none⟩ = some (.int .u8 (rd l0 2)) ∧ w'.cell? ⟨ad142.block, ad142.off + 3, none⟩ = some (.int .u8 (rd l0 3)) ∧ w'.cell? ⟨ad142.block, ad142.off + 4, none⟩ = some (.int .u8 (rd l0 4)) ∧ w'.cell? ⟨ad142.block, ad142.off + 5, none⟩ = some (.int .u8 (rd l0 5))) ∧ (Kd.R (Kd.int .u8) 5 w' w.heap.size (fun _ => True) s_.1 t149) ∧ (w'.heap[gb136]? = some (.cells #[.int .i64 0, .int .i64 0, .int .i64 0, .int .i64 0, .slice none 0 0] 24 (0, 0))) ∧ (w'.heap[s_.2]? = some (.cells #[.int .i64 0, .int .i64 0, .int .i64 0, .int .i64 0, .slice none 0 0] 24 (0, 0))) ∧ (w.heap.size ≤ s_.2) ∧ (w.heap.size ≤ s_.2) ∧ (gb136 ≠ s_.2) ∧ (s_.2 ≠ gb136) ∧ (Below w.heap.size w w')) ?_ ?_
                rotate_left
                ·intro hCont
                 refine two_ (i := 30) (j := 32) (Ni := some 72) (Nj := some 6) (bu 34 31) (bm 34 0x13fffffff) rfl rfl rfl rfl (two_of HT_.out (by kernel_rfl)) (by decide) (by decide) (fun K hK => ?_) (fun K hK => ?_)
                 ·skip
                  refine goes_ Try.func26 (by kernel_rfl) rfl #[.slice A32 ((l0.take ((ji7) : Int).toNat).drop 7).length (c0 - 7)] (by rfl) rfl rfl (by (try simp only [List.map_toArray, List.map_cons, List.map_nil]); first | done | (rw [show ((l0.take ((ji7) : Int).toNat).drop 7).length = ((l0.take ((ji7) : Int).toNat).length - 7) from List.length_drop] <;> rfl) | (simp only [hji7]; rfl) | rfl | (simp only [List.length_drop, List.length_take]; rfl) | (go_simp; done) | (go_simp; rfl)) ?_
                  with_reducible refine (bytes_Clone.calls _ _ ((l0.take ((ji7) : Int).toNat).drop 7) t149 _ ?side1 ?side2 A23.out).mono ?_
                  (case side1 => first | with_reducible exact (Kd.C_below HR148.out HB.out) | exact sC ((Kd.C_below HR148.out HB.out)))
                  (case side2 => exact HC148.out)
                  rintro e w33 ⟨v150, rfl, ho0, hb⟩
                  refine ⟨_, rfl, ?_⟩
                  have n0_ := Aside0.mk (Kd.R_lower ho0 (below_size (by repeat (first | (with_reducible first | exact HB.out | apply b1 | apply b2 | apply b3 | refine below_set ?_ GE136.out) | exact HB.out))))
                  have n1_ := Aside0.mk (bK BK136.out hb)
                  have n2_ := Aside0.mk (below_step (by repeat (first | (with_reducible first | exact HB.out | apply b1 | apply b2 | apply b3 | refine below_set ?_ GE136.out) | exact HB.out)) hb)
                  clear BK136
                  clear HB
                  have HO151 := n0_
                  have BK136 := n1_
                  have HB := n2_
                  clear n0_ n1_ n2_
                  (try clear hb)
                  (try clear hb2)
                  (try clear hk)
                  (try clear hi)
                  (try clear ho0)
                  obtain ⟨Ao34, co34, eo34⟩ := Kd.R_slice HO151.out
                  (first | subst eo34 | (injection eo34 with f1_ f2_ f3_; have f4_ := f1_.symm; have f5_ := f3_.symm; clear f1_ f2_ f3_; subst f4_; subst f5_))
                  refine hK.out _ _ ⟨((HB.out.cell (World.block_lt_of_cell? w _ hw142_0)).trans hw142_0), ((HB.out.cell (World.block_lt_of_cell? w _ hw143_0)).trans hw143_0), ((HB.out.cell (World.block_lt_of_cell? w _ hw144_0)).trans hw144_0), ((HB.out.cell (World.block_lt_of_cell? w _ hw145_0)).trans hw145_0), ((HB.out.cell (World.block_lt_of_cell? w _ hw146_0)).trans hw146_0), ((HB.out.cell (World.block_lt_of_cell? w _ hw147_0)).trans hw147_0)⟩ (fun hHeld => ?_)
                  clear hK K
                  refine norm_ (a' := ?_) ?_ ?_
                  rotate_left
                  ·show Act.put _ (some 72) _ = _
                   simp only [Act.put, List.setIfInBounds_toArray, List.set_cons_zero, List.set_cons_succ, i64_w, i32_w]
                   rfl
                  refine pA 31 73 (bu 34 32) ?_ HT_ rfl rfl (.inl ⟨by rfl, ?_⟩) ?_ ?_ ?_; rotate_left; (focus intro w'; go_simp; with_reducible rfl); rotate_left; (focus simp only [pk]; rfl)
                  refine one_ (i := 32) (N := some 6) (bu 34 33) rfl rfl (one_of HT_.out (by kernel_rfl)) (by decide) (fun K hK => ?_)
                  refine box_step ?hg (N := 6) ?hd (cs := #[.int .i64 0, .int .i64 0, .int .i64 0, .int .i64 0, .slice none 0 0]) (t := 24) ?hr ?_; (case hd => rfl); (case hg => rfl); (case hr => first | (go_simp; done) | (go_simp; rfl))
                  intro gb152 hg w35 hbox hb
                  have n0_ := Aside0.mk (bR HO151.out hb)
                  have n1_ := Aside0.mk (bK BK136.out hb)
                  have n2_ := Aside0.mk (below_step (by repeat (first | (with_reducible first | exact HB.out | apply b1 | apply b2 | apply b3 | refine below_set ?_ GE136.out) | exact HB.out)) hb)
                  have n3_ := Aside0.mk (hbox)
                  have n4_ := Aside0.mk ((by rw [hg]; exact (below_size (by repeat (first | (with_reducible first | exact HB.out | apply b1 | apply b2 | apply b3 | refine below_set ?_ GE136.out) | exact HB.out))) : w.heap.size ≤ gb152))
                  have n5_ := Aside0.mk ((by rw [hg]; exact (below_size (by repeat (first | (with_reducible first | exact HB.out | apply b1 | apply b2 | apply b3 | refine below_set ?_ GE136.out) | exact HB.out))) : w.heap.size ≤ gb152))
                  have n6_ := Aside0.mk ((by rw [hg]; exact Nat.ne_of_lt (blk_lt (g := gb136) (o := .cells #[.int .i64 0, .int .i64 0, .int .i64 0, .int .i64 0, .slice none 0 0] 24 (0, 0)) (by first | with_reducible exact BK136.out | exact sK BK136.out)) : gb136 ≠ gb152))
                  have n7_ := Aside0.mk ((by rw [hg]; exact Nat.ne_of_gt (blk_lt (g := gb136) (o := .cells #[.int .i64 0, .int .i64 0, .int .i64 0, .int .i64 0, .slice none 0 0] 24 (0, 0)) (by first | with_reducible exact BK136.out | exact sK BK136.out)) : gb152 ≠ gb136))
                  clear HO151
                  clear BK136
                  clear HB
                  have HO151 := n0_
                  have BK136 := n1_
                  have HB := n2_
                  have BK152 := n3_
                  have GW152 := n4_
                  have GE152 := n5_
                  have NB136_152 := n6_
                  have NB152_136 := n7_
                  clear n0_ n1_ n2_ n3_ n4_ n5_ n6_ n7_
                  clear hb hbox hg
                  refine hK.out _ _ ⟨((HB.out.cell (World.block_lt_of_cell? w _ hw142_0)).trans hw142_0), ((HB.out.cell (World.block_lt_of_cell? w _ hw143_0)).trans hw143_0), ((HB.out.cell (World.block_lt_of_cell? w _ hw144_0)).trans hw144_0), ((HB.out.cell (World.block_lt_of_cell? w _ hw145_0)).trans hw145_0), ((HB.out.cell (World.block_lt_of_cell? w _ hw146_0)).trans hw146_0), ((HB.out.cell (World.block_lt_of_cell? w _ hw147_0)).trans hw147_0)⟩ (fun hHeld => ?_)
                  clear hK K
                  refine norm_ (a' := ?_) ?_ ?_
                  rotate_left
                  ·show Act.put _ (some 6) _ = _
                   simp only [Act.put, List.setIfInBounds_toArray, List.set_cons_zero, List.set_cons_succ, i64_w, i32_w]
                   rfl
                  exact norm_ (by simp only [putAll, Act.put, List.setIfInBounds_toArray, List.set_cons_zero, List.set_cons_succ]) (hCont (.slice Ao34 t149.length co34, gb152) _ ⟨hHeld, (by first | with_reducible exact HO151.out | exact sR HO151.out), (by first | with_reducible exact BK136.out | exact sK BK136.out), (by first | with_reducible exact BK152.out | exact sK BK152.out), GW152.out, GE152.out, NB136_152.out, NB152_136.out, (by repeat (first | (with_reducible first | exact HB.out | apply b1 | apply b2 | apply b3 | refine below_set ?_ GE136.out | refine below_set ?_ GE152.out) | exact HB.out))⟩)
                 ·skip
                  refine box_step ?hg (N := 6) ?hd (cs := #[.int .i64 0, .int .i64 0, .int .i64 0, .int .i64 0, .slice none 0 0]) (t := 24) ?hr ?_; (case hd => rfl); (case hg => rfl); (case hr => first | (go_simp; done) | (go_simp; rfl))
                  intro gb152 hg w33 hbox hb
                  have n0_ := Aside0.mk (bK BK136.out hb)
                  have n1_ := Aside0.mk (below_step (by repeat (first | (with_reducible first | exact HB.out | apply b1 | apply b2 | apply b3 | refine below_set ?_ GE136.out) | exact HB.out)) hb)
                  have n2_ := Aside0.mk (hbox)
                  have n3_ := Aside0.mk ((by rw [hg]; exact (below_size (by repeat (first | (with_reducible first | exact HB.out | apply b1 | apply b2 | apply b3 | refine below_set ?_ GE136.out) | exact HB.out))) : w.heap.size ≤ gb152))
                  have n4_ := Aside0.mk ((by rw [hg]; exact (below_size (by repeat (first | (with_reducible first | exact HB.out | apply b1 | apply b2 | apply b3 | refine below_set ?_ GE136.out) | exact HB.out))) : w.heap.size ≤ gb152))
                  have n5_ := Aside0.mk ((by rw [hg]; exact Nat.ne_of_lt (blk_lt (g := gb136) (o := .cells #[.int .i64 0, .int .i64 0, .int .i64 0, .int .i64 0, .slice none 0 0] 24 (0, 0)) (by first | with_reducible exact BK136.out | exact sK BK136.out)) : gb136 ≠ gb152))
                  have n6_ := Aside0.mk ((by rw [hg]; exact Nat.ne_of_gt (blk_lt (g := gb136) (o := .cells #[.int .i64 0, .int .i64 0, .int .i64 0, .int .i64 0, .slice none 0 0] 24 (0, 0)) (by first | with_reducible exact BK136.out | exact sK BK136.out)) : gb152 ≠ gb136))
                  clear BK136
                  clear HB
                  have BK136 := n0_
                  have HB := n1_
                  have BK152 := n2_
                  have GW152 := n3_
                  have GE152 := n4_
                  have NB136_152 := n5_
                  have NB152_136 := n6_
                  clear n0_ n1_ n2_ n3_ n4_ n5_ n6_
                  clear hb hbox hg
                  refine hK.out _ _ ⟨((HB.out.cell (World.block_lt_of_cell? w _ hw142_0)).trans hw142_0), ((HB.out.cell (World.block_lt_of_cell? w _ hw143_0)).trans hw143_0), ((HB.out.cell (World.block_lt_of_cell? w _ hw144_0)).trans hw144_0), ((HB.out.cell (World.block_lt_of_cell? w _ hw145_0)).trans hw145_0), ((HB.out.cell (World.block_lt_of_cell? w _ hw146_0)).trans hw146_0), ((HB.out.cell (World.block_lt_of_cell? w _ hw147_0)).trans hw147_0)⟩ (fun hHeld => ?_)
                  clear hK K
                  refine norm_ (a' := ?_) ?_ ?_
                  rotate_left
                  ·show Act.put _ (some 6) _ = _
                   simp only [Act.put, List.setIfInBounds_toArray, List.set_cons_zero, List.set_cons_succ, i64_w, i32_w]
                   rfl
                  refine one_ (i := 30) (N := some 72) (bm 34 0x17fffffff) rfl rfl (one_of HT_.out (by kernel_rfl)) (by decide) (fun K hK => ?_)
                  refine goes_ Try.func26 (by kernel_rfl) rfl #[.slice A32 ((l0.take ((ji7) : Int).toNat).drop 7).length (c0 - 7)] (by rfl) rfl rfl (by (try simp only [List.map_toArray, List.map_cons, List.map_nil]); first | done | (rw [show ((l0.take ((ji7) : Int).toNat).drop 7).length = ((l0.take ((ji7) : Int).toNat).length - 7) from List.length_drop] <;> rfl) | (simp only [hji7]; rfl) | rfl | (simp only [List.length_drop, List.length_take]; rfl) | (go_simp; done) | (go_simp; rfl)) ?_
                  with_reducible refine (bytes_Clone.calls _ _ ((l0.take ((ji7) : Int).toNat).drop 7) t149 _ ?side1 ?side2 A23.out).mono ?_
                  (case side1 => first | with_reducible exact (Kd.C_below HR148.out HB.out) | exact sC ((Kd.C_below HR148.out HB.out)))
                  (case side2 => exact HC148.out)
                  rintro e w34 ⟨v150, rfl, ho0, hb⟩
                  refine ⟨_, rfl, ?_⟩
                  have n0_ := Aside0.mk (Kd.R_lower ho0 (below_size (by repeat (first | (with_reducible first | exact HB.out | apply b1 | apply b2 | apply b3 | refine below_set ?_ GE136.out | refine below_set ?_ GE152.out) | exact HB.out))))
                  have n1_ := Aside0.mk (bK BK136.out hb)
                  have n2_ := Aside0.mk (bK BK152.out hb)
                  have n3_ := Aside0.mk (below_step (by repeat (first | (with_reducible first | exact HB.out | apply b1 | apply b2 | apply b3 | refine below_set ?_ GE136.out | refine below_set ?_ GE152.out) | exact HB.out)) hb)
                  clear BK136
                  clear BK152
                  clear HB
                  have HO151 := n0_
                  have BK136 := n1_
                  have BK152 := n2_
                  have HB := n3_
                  clear n0_ n1_ n2_ n3_
                  (try clear hb)
                  (try clear hb2)
                  (try clear hk)
                  (try clear hi)
                  (try clear ho0)
                  obtain ⟨Ao35, co35, eo35⟩ := Kd.R_slice HO151.out
                  (first | subst eo35 | (injection eo35 with f1_ f2_ f3_; have f4_ := f1_.symm; have f5_ := f3_.symm; clear f1_ f2_ f3_; subst f4_; subst f5_))
                  refine hK.out _ _ ⟨((HB.out.cell (World.block_lt_of_cell? w _ hw142_0)).trans hw142_0), ((HB.out.cell (World.block_lt_of_cell? w _ hw143_0)).trans hw143_0), ((HB.out.cell (World.block_lt_of_cell? w _ hw144_0)).trans hw144_0), ((HB.out.cell (World.block_lt_of_cell? w _ hw145_0)).trans hw145_0), ((HB.out.cell (World.block_lt_of_cell? w _ hw146_0)).trans hw146_0), ((HB.out.cell (World.block_lt_of_cell? w _ hw147_0)).trans hw147_0)⟩ (fun hHeld => ?_)
                  clear hK K
                  refine norm_ (a' := ?_) ?_ ?_
                  rotate_left
                  ·show Act.put _ (some 72) _ = _
                   simp only [Act.put, List.setIfInBounds_toArray, List.set_cons_zero, List.set_cons_succ, i64_w, i32_w]
                   rfl
                  refine pA 31 73 (bu 34 33) ?_ HT_ rfl rfl (.inl ⟨by rfl, ?_⟩) ?_ ?_ ?_; rotate_left; (focus intro w'; go_simp; with_reducible rfl); rotate_left; (focus simp only [pk]; rfl)
                  exact norm_ (by simp only [putAll, Act.put, List.setIfInBounds_toArray, List.set_cons_zero, List.set_cons_succ]) (hCont (.slice Ao35 t149.length co35, gb152) _ ⟨hHeld, (by first | with_reducible exact HO151.out | exact sR HO151.out), (by first | with_reducible exact BK136.out | exact sK BK136.out), (by first | with_reducible exact BK152.out | exact sK BK152.out), GW152.out, GE152.out, NB136_152.out, NB152_136.out, (by repeat (first | (with_reducible first | exact HB.out | apply b1 | apply b2 | apply b3 | refine below_set ?_ GE136.out | refine below_set ?_ GE152.out) | exact HB.out))⟩)
                rintro ⟨v150, gb152⟩ w36 ⟨hS_, h0_, h1_, h2_, h3_, h4_, h5_, h6_, h7_⟩
                have n0_ : Aside0 (Kd.R (Kd.int .u8) 5 w36 w.heap.size (fun _ => True) v150 t149) := ⟨h0_⟩
                have n1_ : Aside0 (w36.heap[gb136]? = some (.cells #[.int .i64 0, .int .i64 0, .int .i64 0, .int .i64 0, .slice none 0 0] 24 (0, 0))) := ⟨h1_⟩
                have n2_ : Aside0 (w36.heap[gb152]? = some (.cells #[.int .i64 0, .int .i64 0, .int .i64 0, .int .i64 0, .slice none 0 0] 24 (0, 0))) := ⟨h2_⟩
                have n3_ : Aside0 (w.heap.size ≤ gb152) := ⟨h3_⟩
                have n4_ : Aside0 (w.heap.size ≤ gb152) := ⟨h4_⟩
                have n5_ : Aside0 (gb136 ≠ gb152) := ⟨h5_⟩
                have n6_ : Aside0 (gb152 ≠ gb136) := ⟨h6_⟩
                have n7_ : Aside0 (Below w.heap.size w w36) := ⟨h7_⟩
                clear BK136
                clear HB
                clear h0_ h1_ h2_ h3_ h4_ h5_ h6_ h7_
                have HO151 := n0_
                have BK136 := n1_
                have BK152 := n2_
                have GW152 := n3_
                have GE152 := n4_
                have NB136_152 := n5_
                have NB152_136 := n6_
                have HB := n7_
                clear n0_ n1_ n2_ n3_ n4_ n5_ n6_ n7_
                have hHeld : w36.cell? ad142 = some (.int .u8 (rd l0 0)) ∧ w36.cell? ⟨ad142.block, ad142.off + 1, none⟩ = some (.int .u8 (rd l0 1)) ∧ w36.cell? ⟨ad142.block, ad142.off + 2, none⟩ = some (.int .u8 (rd l0 2)) ∧ w36.cell? ⟨ad142.block, ad142.off + 3, none⟩ = some (.int .u8 (rd l0 3)) ∧ w36.cell? ⟨ad142.block, ad142.off + 4, none⟩ = some (.int .u8 (rd l0 4)) ∧ w36.cell? ⟨ad142.block, ad142.off + 5, none⟩ = some (.int .u8 (rd l0 5)) := hS_
                obtain ⟨Ao37, co37, eo37⟩ := Kd.R_slice HO151.out
                (first | subst eo37 | (injection eo37 with f1_ f2_ f3_; have f4_ := f1_.symm; have f5_ := f3_.symm; clear f1_ f2_ f3_; subst f4_; subst f5_))
                refine norm_ (a' := ?_) ?_ ?_
                rotate_left
                ·simp only [putAll, Act.put, List.setIfInBounds_toArray, List.set_cons_zero, List.set_cons_succ]
                 rfl
                refine one_ (i := 33) (N := none) (bu 34 34) rfl rfl (one_of HT_.out (by kernel_rfl)) (by decide) (fun K hK => ?_)
                have hs38 : w36.cell? ⟨gb152, 0, none⟩ = some (.int .i64 0) := (blk_cell BK152.out 0).trans rfl
                have hfs38 := blk_frozen BK152.out 0
                have hns38_0 := NB136_152.out
                have hms38_0 := NB152_136.out
                have hs39 : w36.cell? ⟨gb152, 1, none⟩ = some (.int .i64 0) := (blk_cell BK152.out 1).trans rfl
                have hfs39 := blk_frozen BK152.out 1
                have hns39_0 := NB136_152.out
                have hms39_0 := NB152_136.out
                have hs40 : w36.cell? ⟨gb152, 2, none⟩ = some (.int .i64 0) := (blk_cell BK152.out 2).trans rfl
                have hfs40 := blk_frozen BK152.out 2
                have hns40_0 := NB136_152.out
                have hms40_0 := NB152_136.out
                have hs41 : w36.cell? ⟨gb152, 3, none⟩ = some (.int .i64 0) := (blk_cell BK152.out 3).trans rfl
                have hfs41 := blk_frozen BK152.out 3
                have hns41_0 := NB136_152.out
                have hms41_0 := NB152_136.out
                have hs42 : w36.cell? ⟨gb152, 4, none⟩ = some (.slice none 0 0) := (blk_cell BK152.out 4).trans rfl
                have hfs42 := blk_frozen BK152.out 4
                have hns42_0 := NB136_152.out
                have hms42_0 := NB152_136.out
                refine skip_ (w1 := ?_) (by rfl) rfl ?_ ?_
                rotate_left
                ·go_simp
                 rfl
                refine hK.out _ _ ⟨((cell_far (p := ⟨gb152, _, none⟩) (neX hw142_0 GW152.out) _).trans (((cell_far (p := ⟨gb152, _, none⟩) (neX hw142_0 GW152.out) _).trans (((cell_far (p := ⟨gb152, _, none⟩) (neX hw142_0 GW152.out) _).trans (((cell_far (p := ⟨gb152, _, none⟩) (neX hw142_0 GW152.out) _).trans (((cell_far (p := ⟨gb152, _, none⟩) (neX hw142_0 GW152.out) _).trans (hHeld.1)))))))))), ((cell_far (p := ⟨gb152, _, none⟩) (neX hw143_0 GW152.out) _).trans (((cell_far (p := ⟨gb152, _, none⟩) (neX hw143_0 GW152.out) _).trans (((cell_far (p := ⟨gb152, _, none⟩) (neX hw143_0 GW152.out) _).trans (((cell_far (p := ⟨gb152, _, none⟩) (neX hw143_0 GW152.out) _).trans (((cell_far (p := ⟨gb152, _, none⟩) (neX hw143_0 GW152.out) _).trans (hHeld.2.1)))))))))), ((cell_far (p := ⟨gb152, _, none⟩) (neX hw144_0 GW152.out) _).trans (((cell_far (p := ⟨gb152, _, none⟩) (neX hw144_0 GW152.out) _).trans (((cell_far (p := ⟨gb152, _, none⟩) (neX hw144_0 GW152.out) _).trans (((cell_far (p := ⟨gb152, _, none⟩) (neX hw144_0 GW152.out) _).trans (((cell_far (p := ⟨gb152, _, none⟩) (neX hw144_0 GW152.out) _).trans (hHeld.2.2.1)))))))))), ((cell_far (p := ⟨gb152, _, none⟩) (neX hw145_0 GW152.out) _).trans (((cell_far (p := ⟨gb152, _, none⟩) (neX hw145_0 GW152.out) _).trans (((cell_far (p := ⟨gb152, _, none⟩) (neX hw145_0 GW152.out) _).trans (((cell_far (p := ⟨gb152, _, none⟩) (neX hw145_0 GW152.out) _).trans (((cell_far (p := ⟨gb152, _, none⟩) (neX hw145_0 GW152.out) _).trans (hHeld.2.2.2.1)))))))))), ((cell_far (p := ⟨gb152, _, none⟩) (neX hw146_0 GW152.out) _).trans (((cell_far (p := ⟨gb152, _, none⟩) (neX hw146_0 GW152.out) _).trans (((cell_far (p := ⟨gb152, _, none⟩) (neX hw146_0 GW152.out) _).trans (((cell_far (p := ⟨gb152, _, none⟩) (neX hw146_0 GW152.out) _).trans (((cell_far (p := ⟨gb152, _, none⟩) (neX hw146_0 GW152.out) _).trans (hHeld.2.2.2.2.1)))))))))), ((cell_far (p := ⟨gb152, _, none⟩) (neX hw147_0 GW152.out) _).trans (((cell_far (p := ⟨gb152, _, none⟩) (neX hw147_0 GW152.out) _).trans (((cell_far (p := ⟨gb152, _, none⟩) (neX hw147_0 GW152.out) _).trans (((cell_far (p := ⟨gb152, _, none⟩) (neX hw147_0 GW152.out) _).trans (((cell_far (p := ⟨gb152, _, none⟩) (neX hw147_0 GW152.out) _).trans (hHeld.2.2.2.2.2))))))))))⟩ (fun hHeld => ?_)
                clear hK K
                refine done_ (done_of HT_.out (by kernel_rfl)) ?_
                have hnb43 := NB152_136.out
                have hnc43 := NB136_152.out
                have hcz44_0 : w36.cell? ⟨gb152, 0, none⟩ = some (.int .i64 0) := (blk_cell BK152.out 0).trans rfl
                have hcz44_1 : w36.cell? ⟨gb152, 1, none⟩ = some (.int .i64 0) := (blk_cell BK152.out 1).trans rfl
                have hcz44_2 : w36.cell? ⟨gb152, 2, none⟩ = some (.int .i64 0) := (blk_cell BK152.out 2).trans rfl
                have hcz44_3 : w36.cell? ⟨gb152, 3, none⟩ = some (.int .i64 0) := (blk_cell BK152.out 3).trans rfl
                have hcz44_4 : w36.cell? ⟨gb152, 4, none⟩ = some (.slice none 0 0) := (blk_cell BK152.out 4).trans rfl
                have hfz44_0 := blk_frozen BK152.out 0
                have hfz44_1 := blk_frozen BK152.out 1
                have hfz44_2 := blk_frozen BK152.out 2
                have hfz44_3 := blk_frozen BK152.out 3
                have hfz44_4 := blk_frozen BK152.out 4
                go_upto_region 8 with (first | ((with_reducible refine gate_callee (f := 10) rfl ?_); refine goesL_ (some 76) rfl rfl Try.func10 (by kernel_rfl) rfl #[.agg #[.int .i64 (wrap64 (rd l0 0)), .int .i64 (Go.bits .or .i64 (wrap64 ((wrap64 (rd l0 1)) * 256)) (wrap64 (rd l0 2))), .int .i64 (Go.bits .or .i64 (wrap64 ((wrap64 (rd l0 3)) * 256)) (wrap64 (rd l0 4))), .int .i64 (wrap64 (rd l0 5)), .slice Ao37 t149.length co37]] rfl (by (try simp only [List.map_toArray, List.map_cons, List.map_nil]); first | done | rfl | (simp only [List.length_drop, List.length_take]; rfl) | (go_simp; done) | (go_simp; rfl)) ?_; (with_reducible refine (frame_Bytes.calls kj1 (wrap64 (rd l0 0)) (Go.bits .or .i64 (wrap64 ((wrap64 (rd l0 1)) * 256)) (wrap64 (rd l0 2))) (Go.bits .or .i64 (wrap64 ((wrap64 (rd l0 3)) * 256)) (wrap64 (rd l0 4))) (wrap64 (rd l0 5)) _ _ t149 t153 t156 _ ?side1 ?side2 A24.out).mono ?_); (case side1 => refine (Kd.R_reads' (e := 5) (base := w.heap.size) (ok := fun k_ => True) (n := t149.length) (c := co37) ?_).2.2; exact (by (with_reducible repeat (first | apply R1 | apply R2 | apply R3)); exact (Kd.R_mono (Kd.R_far (p := ⟨gb152, 4, none⟩) (Kd.R_far (p := ⟨gb152, 3, none⟩) (Kd.R_far (p := ⟨gb152, 2, none⟩) (Kd.R_far (p := ⟨gb152, 1, none⟩) (Kd.R_far (p := ⟨gb152, 0, none⟩) (Kd.R_types HO151.out BK152.out (by decide)) (fun _ hk => hk.2) (.int .i64 (wrap64 (rd l0 0)))) (fun _ hk => hk.2) (.int .i64 (Go.bits .or .i64 (wrap64 ((wrap64 (rd l0 1)) * 256)) (wrap64 (rd l0 2))))) (fun _ hk => hk.2) (.int .i64 (Go.bits .or .i64 (wrap64 ((wrap64 (rd l0 3)) * 256)) (wrap64 (rd l0 4))))) (fun _ hk => hk.2) (.int .i64 (wrap64 (rd l0 5)))) (fun _ hk => hk.2) (.slice Ao37 t149.length co37)) (fun _ h_ => h_.1)))); (case side2 => exact (Kd.R_reads' HO151.out).2.1); rintro e w45 ⟨v154, rfl, ho0, hb⟩; refine ⟨_, rfl, ?_⟩; have n0_ := Aside0.mk (Kd.R_elder' (by (with_reducible repeat (first | apply R1 | apply R2 | apply R3)); exact (Kd.R_mono (Kd.R_far (p := ⟨gb152, 4, none⟩) (Kd.R_far (p := ⟨gb152, 3, none⟩) (Kd.R_far (p := ⟨gb152, 2, none⟩) (Kd.R_far (p := ⟨gb152, 1, none⟩) (Kd.R_far (p := ⟨gb152, 0, none⟩) (Kd.R_types HO151.out BK152.out (by decide)) (fun _ hk => hk.2) (.int .i64 (wrap64 (rd l0 0)))) (fun _ hk => hk.2) (.int .i64 (Go.bits .or .i64 (wrap64 ((wrap64 (rd l0 1)) * 256)) (wrap64 (rd l0 2))))) (fun _ hk => hk.2) (.int .i64 (Go.bits .or .i64 (wrap64 ((wrap64 (rd l0 3)) * 256)) (wrap64 (rd l0 4))))) (fun _ hk => hk.2) (.int .i64 (wrap64 (rd l0 5)))) (fun _ hk => hk.2) (.slice Ao37 t149.length co37)) (fun _ h_ => h_.1))) (Kd.R_base ho0) hb); have n1_ := Aside0.mk (Kd.R_lower (Kd.R_new' ho0 (Kd.R_lt (by (with_reducible repeat (first | apply R1 | apply R2 | apply R3)); exact (Kd.R_mono (Kd.R_far (p := ⟨gb152, 4, none⟩) (Kd.R_far (p := ⟨gb152, 3, none⟩) (Kd.R_far (p := ⟨gb152, 2, none⟩) (Kd.R_far (p := ⟨gb152, 1, none⟩) (Kd.R_far (p := ⟨gb152, 0, none⟩) (Kd.R_types HO151.out BK152.out (by decide)) (fun _ hk => hk.2) (.int .i64 (wrap64 (rd l0 0)))) (fun _ hk => hk.2) (.int .i64 (Go.bits .or .i64 (wrap64 ((wrap64 (rd l0 1)) * 256)) (wrap64 (rd l0 2))))) (fun _ hk => hk.2) (.int .i64 (Go.bits .or .i64 (wrap64 ((wrap64 (rd l0 3)) * 256)) (wrap64 (rd l0 4))))) (fun _ hk => hk.2) (.int .i64 (wrap64 (rd l0 5)))) (fun _ hk => hk.2) (.slice Ao37 t149.length co37)) (fun _ h_ => h_.1))))) (below_size (by repeat (first | (with_reducible first | exact HB.out | apply b1 | apply b2 | apply b3 | refine below_set ?_ GE136.out | refine below_set ?_ GE152.out) | exact HB.out)))); have n2_ := Aside0.mk (blk_below (g := gb136) (o := .cells #[.int .i64 0, .int .i64 0, .int .i64 0, .int .i64 0, .slice none 0 0] 24 (0, 0)) (by (with_reducible repeat (first | refine k2 ?_ _ | refine k3 ?_ | refine k1 ?_ _)); refine blk_far ?_ NB136_152.out _; (with_reducible repeat (first | refine k2 ?_ _ | refine k3 ?_ | refine k1 ?_ _)); refine blk_far ?_ NB136_152.out _; (with_reducible repeat (first | refine k2 ?_ _ | refine k3 ?_ | refine k1 ?_ _)); refine blk_far ?_ NB136_152.out _; (with_reducible repeat (first | refine k2 ?_ _ | refine k3 ?_ | refine k1 ?_ _)); refine blk_far ?_ NB136_152.out _; (with_reducible repeat (first | refine k2 ?_ _ | refine k3 ?_ | refine k1 ?_ _)); refine blk_far ?_ NB136_152.out _; (with_reducible repeat (first | refine k2 ?_ _ | refine k3 ?_ | refine k1 ?_ _)); exact BK136.out) hb); have n3_ := Aside0.mk (blk_below (g := gb152) (o := .cells #[.int .i64 (wrap64 (rd l0 0)), .int .i64 (Go.bits .or .i64 (wrap64 ((wrap64 (rd l0 1)) * 256)) (wrap64 (rd l0 2))), .int .i64 (Go.bits .or .i64 (wrap64 ((wrap64 (rd l0 3)) * 256)) (wrap64 (rd l0 4))), .int .i64 (wrap64 (rd l0 5)), .slice Ao37 t149.length co37] 24 (0, 0)) (by (with_reducible repeat (first | refine k2 ?_ _ | refine k3 ?_ | refine k1 ?_ _)); refine blk_put (cs := #[.int .i64 (wrap64 (rd l0 0)), .int .i64 (Go.bits .or .i64 (wrap64 ((wrap64 (rd l0 1)) * 256)) (wrap64 (rd l0 2))), .int .i64 (Go.bits .or .i64 (wrap64 ((wrap64 (rd l0 3)) * 256)) (wrap64 (rd l0 4))), .int .i64 (wrap64 (rd l0 5)), .slice none 0 0]) ?_ 4 _ rfl; (with_reducible repeat (first | refine k2 ?_ _ | refine k3 ?_ | refine k1 ?_ _)); refine blk_put (cs := #[.int .i64 (wrap64 (rd l0 0)), .int .i64 (Go.bits .or .i64 (wrap64 ((wrap64 (rd l0 1)) * 256)) (wrap64 (rd l0 2))), .int .i64 (Go.bits .or .i64 (wrap64 ((wrap64 (rd l0 3)) * 256)) (wrap64 (rd l0 4))), .int .i64 0, .slice none 0 0]) ?_ 3 _ rfl; (with_reducible repeat (first | refine k2 ?_ _ | refine k3 ?_ | refine k1 ?_ _)); refine blk_put (cs := #[.int .i64 (wrap64 (rd l0 0)), .int .i64 (Go.bits .or .i64 (wrap64 ((wrap64 (rd l0 1)) * 256)) (wrap64 (rd l0 2))), .int .i64 0, .int .i64 0, .slice none 0 0]) ?_ 2 _ rfl; (with_reducible repeat (first | refine k2 ?_ _ | refine k3 ?_ | refine k1 ?_ _)); refine blk_put (cs := #[.int .i64 (wrap64 (rd l0 0)), .int .i64 0, .int .i64 0, .int .i64 0, .slice none 0 0]) ?_ 1 _ rfl; (with_reducible repeat (first | refine k2 ?_ _ | refine k3 ?_ | refine k1 ?_ _)); refine blk_put (cs := #[.int .i64 0, .int .i64 0, .int .i64 0, .int .i64 0, .slice none 0 0]) ?_ 0 _ rfl; (with_reducible repeat (first | refine k2 ?_ _ | refine k3 ?_ | refine k1 ?_ _)); exact BK152.out) hb); have n4_ := Aside0.mk (below_step (by repeat (first | (with_reducible first | exact HB.out | apply b1 | apply b2 | apply b3 | refine below_set ?_ GE136.out | refine below_set ?_ GE152.out) | exact HB.out)) hb); clear HO151; clear BK136; clear BK152; clear HB; have HO151 := n0_; have HO155 := n1_; have BK136 := n2_; have BK152 := n3_; have HB := n4_; clear n0_ n1_ n2_ n3_ n4_; (try clear hb); (try clear hb2); (try clear hk); (try clear hi); (try clear ho0)))
                (try simp only [Act.put, List.setIfInBounds_toArray, List.set_cons_zero, List.set_cons_succ])
                go_cut [86] (fun v86 wc => ∃ (kq : Nat) (x86_24 : Bool), v86 = .bool x86_24 ∧ Aside0 (frame_Read.j1 kq x86_24 (wrap64 (rd l0 0)) (Go.bits .or .i64 (wrap64 ((wrap64 (rd l0 1)) * 256)) (wrap64 (rd l0 2))) (Go.bits .or .i64 (wrap64 ((wrap64 (rd l0 3)) * 256)) (wrap64 (rd l0 4))) (wrap64 (rd l0 5)) t149 = some (r1, r2, r3, r4, r5, r6)) ∧ Aside0 (kq ≤ kj1) ∧ Aside0 (Kd.R (Kd.int .u8) 5 wc w.heap.size (fun _ => True) (.slice Ao37 t149.length co37) t149) ∧ Aside0 (wc.heap[gb136]? = some (.cells #[.int .i64 0, .int .i64 0, .int .i64 0, .int .i64 0, (.slice none 0 0)] 24 (0, 0))) ∧ Aside0 (wc.heap[gb152]? = some (.cells #[.int .i64 (wrap64 (rd l0 0)), .int .i64 (Go.bits .or .i64 (wrap64 ((wrap64 (rd l0 1)) * 256)) (wrap64 (rd l0 2))), .int .i64 (Go.bits .or .i64 (wrap64 ((wrap64 (rd l0 3)) * 256)) (wrap64 (rd l0 4))), .int .i64 (wrap64 (rd l0 5)), (.slice Ao37 t149.length co37)] 24 (0, 0))) ∧ Aside0 (Below w.heap.size w wc))
                case first =>
                 have H := HC25.out
                 clear HC25
                 by_cases c46 : t156 = 0
                 ·rw [if_pos c46] at H
                  have c46b0 : (t156 == 0) = true := beq_iff_eq.mpr c46
                  have c46b1 : (t156 != 0) = false := bne_eq_false_iff_eq.mpr c46
                  clear c46
                  (first | rw [c46b0] | (simp only [i64_w, i32_w]; rw [c46b0]) | skip)
                  replace H := Option.bind_eq_some_iff.mp H
                  obtain ⟨t157, A470, H⟩ := H
                  replace H : (frame_Read.j1 kj1 (!t157) (wrap64 (rd l0 0)) (Go.bits .or .i64 (wrap64 ((wrap64 (rd l0 1)) * 256)) (wrap64 (rd l0 2))) (Go.bits .or .i64 (wrap64 ((wrap64 (rd l0 3)) * 256)) (wrap64 (rd l0 4))) (wrap64 (rd l0 5)) t149) = some (r1, r2, r3, r4, r5, r6) := H
                  have A47 := Aside0.mk A470
                  clear A470
                  have H' := Aside0.mk H
                  clear H
                  obtain ⟨Ao48, co48, eo48⟩ := Kd.R_slice HO155.out
                  subst eo48
                  go_wp2_with (first | (go_at_call 27; (with_reducible refine (bytes_Equal.calls _ _ t153 _ _ l0 t157 _ ?side1 ?side2 ?side3 ?side4 A47.out).mono ?_); (case side1 => first | with_reducible exact (Kd.R_reads' HO155.out).2.2 | exact sC ((Kd.R_reads' HO155.out).2.2)); (case side2 => exact (Kd.R_reads' HO155.out).2.1); (case side3 => first | with_reducible exact (Kd.C_below HR0.out HB.out) | exact sC ((Kd.C_below HR0.out HB.out))); (case side4 => exact HC0.out); rintro e w' ⟨rfl, ⟨nd, rfl⟩⟩))
                  go_meet
                  case rel => exact ⟨_, (!t157), (by first | rfl | (simp; done) | (simp [*]; done)), H', ⟨by have := HJ1.out; first | omega | exact Nat.le_refl _⟩, ⟨by (with_reducible repeat (first | apply R1 | apply R2 | apply R3)); exact Kd.R_mono HO151.out (fun _ hk => trivial)⟩, ⟨by (with_reducible repeat (first | refine k2 ?_ _ | refine k3 ?_ | refine k1 ?_ _)); exact BK136.out⟩, ⟨by (with_reducible repeat (first | refine k2 ?_ _ | refine k3 ?_ | refine k1 ?_ _)); exact BK152.out⟩, ⟨by repeat (first | (with_reducible first | exact HB.out | apply b1 | apply b2 | apply b3 | refine below_set ?_ GE136.out | refine below_set ?_ GE152.out) | exact HB.out)⟩⟩
                 ·rw [if_neg c46] at H
                  have c46b0 : (t156 == 0) = false := beq_eq_false_iff_ne.mpr c46
                  have c46b1 : (t156 != 0) = true := bne_iff_ne.mpr c46
                  (first | rw [c46b0] | (simp only [i64_w, i32_w]; rw [c46b0]) | skip)
                  have H' := Aside0.mk H
                  clear H
                  go_wp2
                  go_meet
                  case rel => exact ⟨_, (true), (by first | rfl | (simp; done) | (simp [*]; done)), H', ⟨by have := HJ1.out; first | omega | exact Nat.le_refl _⟩, ⟨by (with_reducible repeat (first | apply R1 | apply R2 | apply R3)); exact Kd.R_mono HO151.out (fun _ hk => trivial)⟩, ⟨by (with_reducible repeat (first | refine k2 ?_ _ | refine k3 ?_ | refine k1 ?_ _)); exact BK136.out⟩, ⟨by (with_reducible repeat (first | refine k2 ?_ _ | refine k3 ?_ | refine k1 ?_ _)); exact BK152.out⟩, ⟨by repeat (first | (with_reducible first | exact HB.out | apply b1 | apply b2 | apply b3 | refine below_set ?_ GE136.out | refine below_set ?_ GE152.out) | exact HB.out)⟩⟩
                case rest =>
                 clear HC25
                 try clear c1
                 try clear p1
                 try clear q1
                 try clear hx1
                 try clear qi1
                 try clear c2
                 try clear p2
                 try clear c4
                 try clear p6
                 try clear c10
                 try clear p14
                 try clear q14
                 try clear hx14
                 try clear qi14
                 try clear c26
                 try clear c43
                 try clear c46
                 try clear c46b0
                 try clear c46b1
                 try clear hcz44_0
                 try clear hcz44_1
                 try clear hcz44_2
                 try clear hcz44_3
                 try clear hcz44_4
                 try clear hfz44_0
                 try clear hfz44_1
                 try clear hfz44_2
                 try clear hfz44_3
                 try clear hfz44_4
                 try clear hx142_0
                 try clear hx143_0
                 try clear hx144_0
                 try clear hx145_0
                 try clear hx146_0
                 try clear hx147_0
                 try clear p142
                 try clear p143
                 try clear p144
                 try clear p145
                 try clear p146
                 try clear p147
                 try clear q142
                 try clear q143
                 try clear q144
                 try clear q145
                 try clear q146
                 try clear q147
                 obtain ⟨kq, x86_24, rfl, HA, HJ24, HO_153004, BK136, BK152, HB⟩ := hcut
                 cases kq with
                 | zero => exact absurd HA.out (by simp [frame_Read.j1])
                 | succ kj24 =>
                  have H := HA.out
                  clear HA
                  simp only [frame_Read.j1] at H
                  by_cases c49 : x86_24 = true
                  ·subst c49
                   have H1 : (some (0, 0, 0, 0, ([] : List Int), 3)) = some (r1, r2, r3, r4, r5, r6) := by rw [if_pos rfl] at H; exact H
                   clear H
                   have H := H1
                   clear H1
                   simp only [Option.some.injEq, Prod.mk.injEq] at H
                   obtain ⟨rfl, rfl, rfl, rfl, rfl, rfl⟩ := H
                   have hnb50 := NB136_152.out
                   have hnc50 := NB152_136.out
                   have hcz51_0 : wc.cell? ⟨gb136, 0, none⟩ = some (.int .i64 0) := (blk_cell BK136.out 0).trans rfl
                   have hcz51_1 : wc.cell? ⟨gb136, 1, none⟩ = some (.int .i64 0) := (blk_cell BK136.out 1).trans rfl
                   have hcz51_2 : wc.cell? ⟨gb136, 2, none⟩ = some (.int .i64 0) := (blk_cell BK136.out 2).trans rfl
                   have hcz51_3 : wc.cell? ⟨gb136, 3, none⟩ = some (.int .i64 0) := (blk_cell BK136.out 3).trans rfl
                   have hcz51_4 : wc.cell? ⟨gb136, 4, none⟩ = some (.slice none 0 0) := (blk_cell BK136.out 4).trans rfl
                   have hfz51_0 := blk_frozen BK136.out 0
                   have hfz51_1 := blk_frozen BK136.out 1
                   have hfz51_2 := blk_frozen BK136.out 2
                   have hfz51_3 := blk_frozen BK136.out 3
                   have hfz51_4 := blk_frozen BK136.out 4
                   go_wp2
                   refine bodyPost_ret (results_ct rfl _ _ gb136 24 #[.int .i64 0, .int .i64 0, .int .i64 0, .int .i64 0, .slice none 0 0] (0, 0) _ rfl (by (with_reducible repeat (first | refine k2 ?_ _ | refine k3 ?_ | refine k1 ?_ _)); refine blk_put (cs := #[.int .i64 0, .int .i64 0, .int .i64 0, .int .i64 0, .slice none 0 0]) ?_ 4 _ rfl; (with_reducible repeat (first | refine k2 ?_ _ | refine k3 ?_ | refine k1 ?_ _)); refine blk_put (cs := #[.int .i64 0, .int .i64 0, .int .i64 0, .int .i64 0, .slice none 0 0]) ?_ 3 _ rfl; (with_reducible repeat (first | refine k2 ?_ _ | refine k3 ?_ | refine k1 ?_ _)); refine blk_put (cs := #[.int .i64 0, .int .i64 0, .int .i64 0, .int .i64 0, .slice none 0 0]) ?_ 2 _ rfl; (with_reducible repeat (first | refine k2 ?_ _ | refine k3 ?_ | refine k1 ?_ _)); refine blk_put (cs := #[.int .i64 0, .int .i64 0, .int .i64 0, .int .i64 0, .slice none 0 0]) ?_ 1 _ rfl; (with_reducible repeat (first | refine k2 ?_ _ | refine k3 ?_ | refine k1 ?_ _)); refine blk_put (cs := #[.int .i64 0, .int .i64 0, .int .i64 0, .int .i64 0, .slice none 0 0]) ?_ 0 _ rfl; (with_reducible repeat (first | refine k2 ?_ _ | refine k3 ?_ | refine k1 ?_ _)); exact BK136.out) Try.underlying24 rfl (by kernel_rfl)) rfl ?_
                   exact ⟨_, by first | rfl | (simp [errW_none, errW_some] <;> rfl) | (simp only [← hji7]; first | rfl | (simp [errW_none, errW_some] <;> rfl)) | (simp [*, errW_none, errW_some] <;> rfl), by first | exact Kd.R_nil _ _ _ _ _ | exact Kd.N_nil _ _ _ _ _ | exact Kd.V_nil _ _ _ _ _ | exact Kd.Q_nil _ _ _ _ _ | exact Kd.S_nil _ _ _ _ _, by repeat (first | (with_reducible first | exact HB.out | apply b1 | apply b2 | apply b3 | refine below_set ?_ GE136.out | refine below_set ?_ GE152.out) | exact HB.out)⟩
                  ·replace c49 := Bool.eq_false_iff.mpr c49
                   subst c49
                   have H1 : (if (t149.length : Int) = 0 then (some ((wrap64 (rd l0 0)), (Go.bits .or .i64 (wrap64 ((wrap64 (rd l0 1)) * 256)) (wrap64 (rd l0 2))), (Go.bits .or .i64 (wrap64 ((wrap64 (rd l0 3)) * 256)) (wrap64 (rd l0 4))), (wrap64 (rd l0 5)), ([] : List Int), 0)) else (some ((wrap64 (rd l0 0)), (Go.bits .or .i64 (wrap64 ((wrap64 (rd l0 1)) * 256)) (wrap64 (rd l0 2))), (Go.bits .or .i64 (wrap64 ((wrap64 (rd l0 3)) * 256)) (wrap64 (rd l0 4))), (wrap64 (rd l0 5)), t149, 0))) = some (r1, r2, r3, r4, r5, r6) := by rw [if_neg (show ¬ (false = true) by decide)] at H; exact H
                   clear H
                   have H := H1
                   clear H1
                   by_cases c52 : (t149.length : Int) = 0
                   ·rw [if_pos c52] at H
                    have c52b0 : ((t149.length : Int) == 0) = true := beq_iff_eq.mpr c52
                    have c52b1 : ((t149.length : Int) != 0) = false := bne_eq_false_iff_eq.mpr c52
                    clear c52
                    simp only [Option.some.injEq, Prod.mk.injEq] at H
                    obtain ⟨rfl, rfl, rfl, rfl, rfl, rfl⟩ := H
                    have hnb53 := NB152_136.out
                    have hnc53 := NB136_152.out
                    have hcz54_0 : wc.cell? ⟨gb152, 0, none⟩ = some (.int .i64 (wrap64 (rd l0 0))) := (blk_cell BK152.out 0).trans rfl
                    have hcz54_1 : wc.cell? ⟨gb152, 1, none⟩ = some (.int .i64 (Go.bits .or .i64 (wrap64 ((wrap64 (rd l0 1)) * 256)) (wrap64 (rd l0 2)))) := (blk_cell BK152.out 1).trans rfl
                    have hcz54_2 : wc.cell? ⟨gb152, 2, none⟩ = some (.int .i64 (Go.bits .or .i64 (wrap64 ((wrap64 (rd l0 3)) * 256)) (wrap64 (rd l0 4)))) := (blk_cell BK152.out 2).trans rfl
                    have hcz54_3 : wc.cell? ⟨gb152, 3, none⟩ = some (.int .i64 (wrap64 (rd l0 5))) := (blk_cell BK152.out 3).trans rfl
                    have hcz54_4 : wc.cell? ⟨gb152, 4, none⟩ = some (.slice Ao37 t149.length co37) := (blk_cell BK152.out 4).trans rfl
                    have hfz54_0 := blk_frozen BK152.out 0
                    have hfz54_1 := blk_frozen BK152.out 1
                    have hfz54_2 := blk_frozen BK152.out 2
                    have hfz54_3 := blk_frozen BK152.out 3
                    have hfz54_4 := blk_frozen BK152.out 4
                    have hcz55_0 : wc.cell? ⟨gb136, 0, none⟩ = some (.int .i64 0) := (blk_cell BK136.out 0).trans rfl
                    have hcz55_1 : wc.cell? ⟨gb136, 1, none⟩ = some (.int .i64 0) := (blk_cell BK136.out 1).trans rfl
                    have hcz55_2 : wc.cell? ⟨gb136, 2, none⟩ = some (.int .i64 0) := (blk_cell BK136.out 2).trans rfl
                    have hcz55_3 : wc.cell? ⟨gb136, 3, none⟩ = some (.int .i64 0) := (blk_cell BK136.out 3).trans rfl
                    have hcz55_4 : wc.cell? ⟨gb136, 4, none⟩ = some (.slice none 0 0) := (blk_cell BK136.out 4).trans rfl
                    have hfz55_0 := blk_frozen BK136.out 0
                    have hfz55_1 := blk_frozen BK136.out 1
                    have hfz55_2 := blk_frozen BK136.out 2
                    have hfz55_3 := blk_frozen BK136.out 3
                    have hfz55_4 := blk_frozen BK136.out 4
                    go_wp2
                    refine bodyPost_ret (results_ct rfl _ _ gb136 24 #[.int .i64 (wrap64 (rd l0 0)), .int .i64 (Go.bits .or .i64 (wrap64 ((wrap64 (rd l0 1)) * 256)) (wrap64 (rd l0 2))), .int .i64 (Go.bits .or .i64 (wrap64 ((wrap64 (rd l0 3)) * 256)) (wrap64 (rd l0 4))), .int .i64 (wrap64 (rd l0 5)), .slice none 0 0] (0, 0) _ rfl (by (with_reducible repeat (first | refine k2 ?_ _ | refine k3 ?_ | refine k1 ?_ _)); refine blk_put (cs := #[.int .i64 (wrap64 (rd l0 0)), .int .i64 (Go.bits .or .i64 (wrap64 ((wrap64 (rd l0 1)) * 256)) (wrap64 (rd l0 2))), .int .i64 (Go.bits .or .i64 (wrap64 ((wrap64 (rd l0 3)) * 256)) (wrap64 (rd l0 4))), .int .i64 (wrap64 (rd l0 5)), .slice none 0 0]) ?_ 4 _ rfl; (with_reducible repeat (first | refine k2 ?_ _ | refine k3 ?_ | refine k1 ?_ _)); refine blk_put (cs := #[.int .i64 (wrap64 (rd l0 0)), .int .i64 (Go.bits .or .i64 (wrap64 ((wrap64 (rd l0 1)) * 256)) (wrap64 (rd l0 2))), .int .i64 (Go.bits .or .i64 (wrap64 ((wrap64 (rd l0 3)) * 256)) (wrap64 (rd l0 4))), .int .i64 0, .slice none 0 0]) ?_ 3 _ rfl; (with_reducible repeat (first | refine k2 ?_ _ | refine k3 ?_ | refine k1 ?_ _)); refine blk_put (cs := #[.int .i64 (wrap64 (rd l0 0)), .int .i64 (Go.bits .or .i64 (wrap64 ((wrap64 (rd l0 1)) * 256)) (wrap64 (rd l0 2))), .int .i64 0, .int .i64 0, .slice none 0 0]) ?_ 2 _ rfl; (with_reducible repeat (first | refine k2 ?_ _ | refine k3 ?_ | refine k1 ?_ _)); refine blk_put (cs := #[.int .i64 (wrap64 (rd l0 0)), .int .i64 0, .int .i64 0, .int .i64 0, .slice none 0 0]) ?_ 1 _ rfl; (with_reducible repeat (first | refine k2 ?_ _ | refine k3 ?_ | refine k1 ?_ _)); refine blk_put (cs := #[.int .i64 0, .int .i64 0, .int .i64 0, .int .i64 0, .slice none 0 0]) ?_ 0 _ rfl; (with_reducible repeat (first | refine k2 ?_ _ | refine k3 ?_ | refine k1 ?_ _)); refine blk_far ?_ NB136_152.out _; (with_reducible repeat (first | refine k2 ?_ _ | refine k3 ?_ | refine k1 ?_ _)); exact BK136.out) Try.underlying24 rfl (by kernel_rfl)) rfl ?_
                    exact ⟨_, by first | rfl | (simp [errW_none, errW_some] <;> rfl) | (simp only [← hji7]; first | rfl | (simp [errW_none, errW_some] <;> rfl)) | (simp [*, errW_none, errW_some] <;> rfl), by first | exact Kd.R_nil _ _ _ _ _ | exact Kd.N_nil _ _ _ _ _ | exact Kd.V_nil _ _ _ _ _ | exact Kd.Q_nil _ _ _ _ _ | exact Kd.S_nil _ _ _ _ _, by repeat (first | (with_reducible first | exact HB.out | apply b1 | apply b2 | apply b3 | refine below_set ?_ GE136.out | refine below_set ?_ GE152.out) | exact HB.out)⟩
                   ·rw [if_neg c52] at H
                    have c52b0 : ((t149.length : Int) == 0) = false := beq_eq_false_iff_ne.mpr c52
                    have c52b1 : ((t149.length : Int) != 0) = true := bne_iff_ne.mpr c52
                    have c52b2 : ¬ (t149 = []) := fun h_ => c52 (by rw [h_]; rfl)
                    simp only [Option.some.injEq, Prod.mk.injEq] at H
                    obtain ⟨rfl, rfl, rfl, rfl, rfl, rfl⟩ := H
                    have hnb56 := NB152_136.out
                    have hnc56 := NB136_152.out
                    have hcz57_0 : wc.cell? ⟨gb152, 0, none⟩ = some (.int .i64 (wrap64 (rd l0 0))) := (blk_cell BK152.out 0).trans rfl
                    have hcz57_1 : wc.cell? ⟨gb152, 1, none⟩ = some (.int .i64 (Go.bits .or .i64 (wrap64 ((wrap64 (rd l0 1)) * 256)) (wrap64 (rd l0 2)))) := (blk_cell BK152.out 1).trans rfl
                    have hcz57_2 : wc.cell? ⟨gb152, 2, none⟩ = some (.int .i64 (Go.bits .or .i64 (wrap64 ((wrap64 (rd l0 3)) * 256)) (wrap64 (rd l0 4)))) := (blk_cell BK152.out 2).trans rfl
                    have hcz57_3 : wc.cell? ⟨gb152, 3, none⟩ = some (.int .i64 (wrap64 (rd l0 5))) := (blk_cell BK152.out 3).trans rfl
                    have hcz57_4 : wc.cell? ⟨gb152, 4, none⟩ = some (.slice Ao37 t149.length co37) := (blk_cell BK152.out 4).trans rfl
                    have hfz57_0 := blk_frozen BK152.out 0
                    have hfz57_1 := blk_frozen BK152.out 1
                    have hfz57_2 := blk_frozen BK152.out 2
                    have hfz57_3 := blk_frozen BK152.out 3
                    have hfz57_4 := blk_frozen BK152.out 4
                    have hcz58_0 : wc.cell? ⟨gb136, 0, none⟩ = some (.int .i64 0) := (blk_cell BK136.out 0).trans rfl
                    have hcz58_1 : wc.cell? ⟨gb136, 1, none⟩ = some (.int .i64 0) := (blk_cell BK136.out 1).trans rfl
                    have hcz58_2 : wc.cell? ⟨gb136, 2, none⟩ = some (.int .i64 0) := (blk_cell BK136.out 2).trans rfl
                    have hcz58_3 : wc.cell? ⟨gb136, 3, none⟩ = some (.int .i64 0) := (blk_cell BK136.out 3).trans rfl
                    have hcz58_4 : wc.cell? ⟨gb136, 4, none⟩ = some (.slice none 0 0) := (blk_cell BK136.out 4).trans rfl
                    have hfz58_0 := blk_frozen BK136.out 0
                    have hfz58_1 := blk_frozen BK136.out 1
                    have hfz58_2 := blk_frozen BK136.out 2
                    have hfz58_3 := blk_frozen BK136.out 3
                    have hfz58_4 := blk_frozen BK136.out 4
                    go_wp2
                    refine bodyPost_ret (results_ct rfl _ _ gb136 24 #[.int .i64 (wrap64 (rd l0 0)), .int .i64 (Go.bits .or .i64 (wrap64 ((wrap64 (rd l0 1)) * 256)) (wrap64 (rd l0 2))), .int .i64 (Go.bits .or .i64 (wrap64 ((wrap64 (rd l0 3)) * 256)) (wrap64 (rd l0 4))), .int .i64 (wrap64 (rd l0 5)), .slice Ao37 t149.length co37] (0, 0) _ rfl (by (with_reducible repeat (first | refine k2 ?_ _ | refine k3 ?_ | refine k1 ?_ _)); refine blk_put (cs := #[.int .i64 (wrap64 (rd l0 0)), .int .i64 (Go.bits .or .i64 (wrap64 ((wrap64 (rd l0 1)) * 256)) (wrap64 (rd l0 2))), .int .i64 (Go.bits .or .i64 (wrap64 ((wrap64 (rd l0 3)) * 256)) (wrap64 (rd l0 4))), .int .i64 (wrap64 (rd l0 5)), .slice none 0 0]) ?_ 4 _ rfl; (with_reducible repeat (first | refine k2 ?_ _ | refine k3 ?_ | refine k1 ?_ _)); refine blk_put (cs := #[.int .i64 (wrap64 (rd l0 0)), .int .i64 (Go.bits .or .i64 (wrap64 ((wrap64 (rd l0 1)) * 256)) (wrap64 (rd l0 2))), .int .i64 (Go.bits .or .i64 (wrap64 ((wrap64 (rd l0 3)) * 256)) (wrap64 (rd l0 4))), .int .i64 0, .slice none 0 0]) ?_ 3 _ rfl; (with_reducible repeat (first | refine k2 ?_ _ | refine k3 ?_ | refine k1 ?_ _)); refine blk_put (cs := #[.int .i64 (wrap64 (rd l0 0)), .int .i64 (Go.bits .or .i64 (wrap64 ((wrap64 (rd l0 1)) * 256)) (wrap64 (rd l0 2))), .int .i64 0, .int .i64 0, .slice none 0 0]) ?_ 2 _ rfl; (with_reducible repeat (first | refine k2 ?_ _ | refine k3 ?_ | refine k1 ?_ _)); refine blk_put (cs := #[.int .i64 (wrap64 (rd l0 0)), .int .i64 0, .int .i64 0, .int .i64 0, .slice none 0 0]) ?_ 1 _ rfl; (with_reducible repeat (first | refine k2 ?_ _ | refine k3 ?_ | refine k1 ?_ _)); refine blk_put (cs := #[.int .i64 0, .int .i64 0, .int .i64 0, .int .i64 0, .slice none 0 0]) ?_ 0 _ rfl; (with_reducible repeat (first | refine k2 ?_ _ | refine k3 ?_ | refine k1 ?_ _)); exact BK136.out) Try.underlying24 rfl (by kernel_rfl)) rfl ?_
                    exact ⟨_, by first | rfl | (simp [errW_none, errW_some] <;> rfl) | (simp only [← hji7]; first | rfl | (simp [errW_none, errW_some] <;> rfl)) | (simp [*, errW_none, errW_some] <;> rfl), by (with_reducible repeat (first | apply R1 | apply R2 | apply R3)); exact Kd.R_mono (Kd.R_far (p := ⟨gb136, 4, none⟩) (Kd.R_far (p := ⟨gb136, 3, none⟩) (Kd.R_far (p := ⟨gb136, 2, none⟩) (Kd.R_far (p := ⟨gb136, 1, none⟩) (Kd.R_far (p := ⟨gb136, 0, none⟩) (Kd.R_types HO_153004.out BK136.out (by decide)) (fun _ hk => hk.2) (.int .i64 (wrap64 (rd l0 0)))) (fun _ hk => hk.2) (.int .i64 (Go.bits .or .i64 (wrap64 ((wrap64 (rd l0 1)) * 256)) (wrap64 (rd l0 2))))) (fun _ hk => hk.2) (.int .i64 (Go.bits .or .i64 (wrap64 ((wrap64 (rd l0 3)) * 256)) (wrap64 (rd l0 4))))) (fun _ hk => hk.2) (.int .i64 (wrap64 (rd l0 5)))) (fun _ hk => hk.2) (.slice Ao37 t149.length co37)) (fun _ hk => trivial), by repeat (first | (with_reducible first | exact HB.out | apply b1 | apply b2 | apply b3 | refine below_set ?_ GE136.out | refine below_set ?_ GE152.out) | exact HB.out)⟩
               ·rw [if_neg c22] at H
                exact absurd H (by simp)
              ·rw [if_neg c21] at H
               exact absurd H (by simp)
             ·rw [if_neg c20] at H
              exact absurd H (by simp)
            ·rw [if_neg c19] at H
             exact absurd H (by simp)
           ·rw [if_neg c18] at H
            exact absurd H (by simp)
          ·rw [if_neg c17] at H
           exact absurd H (by simp)
         ·rw [if_neg c16] at H
          exact absurd H (by simp)
        ·rw [if_neg c15] at H
         have c15b0 : (t139 == (Go.bits .or .i64 (wrap64 (rd (l0.drop ((ji7) : Int).toNat) 0)) (wrap64 ((wrap64 (rd (l0.drop ((ji7) : Int).toNat) 1)) * 256)))) = false := beq_eq_false_iff_ne.mpr c15
         have c15b1 : (t139 != (Go.bits .or .i64 (wrap64 (rd (l0.drop ((ji7) : Int).toNat) 0)) (wrap64 ((wrap64 (rd (l0.drop ((ji7) : Int).toNat) 1)) * 256)))) = true := bne_iff_ne.mpr c15
         simp only [Option.some.injEq, Prod.mk.injEq] at H
         obtain ⟨rfl, rfl, rfl, rfl, rfl, rfl⟩ := H
         try go_wp2
         have n0_ := Aside0.mk (blk_drew BK136.out)
         have n1_ := Aside0.mk (below_drew1 HB.out)
         clear BK136
         clear HB
         have BK136 := n0_
         have HB := n1_
         clear n0_ n1_
         obtain ⟨i060, hi060, _, hsz60, _⟩ := info_parts info5
         obtain ⟨hcut60, hA60, hC60⟩ := print_take_of (P := Try.prog) (Value.int .u8) 0 22 5 .i64 Try.underlying22 hi060 hsz60 A0 c0 l0 (ji7) (of_decide_eq_true (by first | (with_reducible assumption) | assumption)) (of_decide_eq_true (by first | (with_reducible assumption) | assumption)) HC0.out
         have HR137 := Aside0.mk (Kd.C_of_reads (h1 := fun _ => rfl) (hA60 _ (Kd.reads_of_C HR0.out)))
         have HC137 := Aside0.mk hC60
         clear hA60 hC60 hi060 hsz60
         obtain ⟨i061, hi061, _, hsz61, _⟩ := info_parts info5
         obtain ⟨A61, hcut61, hA61, hC61⟩ := print_drop_of (P := Try.prog) (Value.int .u8) 0 22 5 .i64 Try.underlying22 hi061 hsz61 A0 c0 l0 (ji7) (of_decide_eq_true (by first | (with_reducible assumption) | assumption)) (of_decide_eq_true (by first | (with_reducible assumption) | assumption)) HC0.out
         have HR138 := Aside0.mk (Kd.C_of_reads (h1 := fun _ => rfl) (hA61 _ (Kd.reads_of_C HR0.out)))
         have HC138 := Aside0.mk hC61
         clear hA61 hC61 hi061 hsz61
         refine start_ (n := 12) (S := fun w' => True) (ds := []) (bu 12 0) (by kernel_rfl) rfl rfl trivial (fun hHeld => ?_); refine with_tabW frame_Read.tab3 frame_Read.bits3 (fun HT_ HW_ => ?_)
         generalize wc.drew = w59 at BK136 HB HR137 HR138 hHeld ⊢
         refine pA 0 18 (bu 12 1) ?_ HT_ rfl rfl (.inl ⟨by rfl, ?_⟩) ?_ ?_ ?_; rotate_left; (focus intro w'; go_simp; with_reducible rfl); rotate_left; (focus simp only [pk]; rfl)
         refine pA 1 19 (bu 12 2) ?_ HT_ rfl rfl (.inl ⟨by rfl, ?_⟩) ?_ ?_ ?_; rotate_left; (focus intro w'; go_simp; with_reducible rfl); rotate_left; (focus simp only [pk]; rfl)
         refine pA 2 20 (bu 12 3) ?_ HT_ rfl rfl (.inl ⟨by rfl, ?_⟩) ?_ ?_ ?_; rotate_left; (focus intro w'; go_simp; with_reducible rfl); rotate_left; (focus simp only [pk]; rfl)
         refine pA 3 21 (bu 12 4) ?_ HT_ rfl rfl (.inl ⟨by rfl, ?_⟩) ?_ ?_ ?_; rotate_left; (focus intro w'; go_simp; with_reducible rfl); rotate_left; (focus simp only [pk]; rfl)
         refine pA 4 22 (bu 12 5) ?_ HT_ rfl rfl (.inl ⟨by rfl, ?_⟩) ?_ ?_ ?_; rotate_left; (focus intro w'; go_simp; with_reducible rfl); rotate_left; (focus simp only [pk]; rfl)
         refine pA 5 23 (bu 12 6) ?_ HT_ rfl rfl (.inl ⟨by rfl, ?_⟩) ?_ ?_ ?_; rotate_left; (focus intro w'; go_simp; with_reducible rfl); rotate_left; (focus simp only [pk]; rfl)
         refine pA 6 24 (bu 12 7) ?_ HT_ rfl rfl (.inl ⟨by rfl, ?_⟩) ?_ ?_ ?_; rotate_left; (focus intro w'; go_simp; with_reducible rfl); rotate_left; (focus simp only [pk]; rfl)
         refine pA 7 25 (bu 12 8) ?_ HT_ rfl rfl (.inl ⟨by rfl, ?_⟩) ?_ ?_ ?_; rotate_left; (focus intro w'; go_simp; with_reducible rfl); rotate_left; (focus simp only [pk]; rfl)
         refine pA 8 26 (bu 12 9) ?_ HT_ rfl rfl (.inl ⟨by rfl, ?_⟩) ?_ ?_ ?_; rotate_left; (focus intro w'; go_simp; with_reducible rfl); rotate_left; (focus simp only [pk]; rfl)
         refine pA 9 27 (bu 12 10) ?_ HT_ rfl rfl (.inl ⟨by rfl, ?_⟩) ?_ ?_ ?_; rotate_left; (focus intro w'; go_simp; with_reducible rfl); rotate_left; (focus simp only [pk]; rfl)
         refine pA 10 4 (bu 12 11) ?_ HT_ rfl rfl (.inl ⟨by rfl, ?_⟩) ?_ ?_ ?_; rotate_left; (focus intro w'; go_simp; with_reducible rfl); rotate_left; (focus simp only [pk]; rfl)
         refine pA 11 5 (bu 12 12) ?_ HT_ rfl rfl (.inl ⟨by rfl, ?_⟩) ?_ ?_ ?_; rotate_left; (focus intro w'; go_simp; with_reducible rfl); rotate_left; (focus simp only [pk]; rfl)
         refine done_ (done_of HT_.out (by kernel_rfl)) ?_
         try go_wp2
         have n0_ := Aside0.mk (blk_drew BK136.out)
         have n1_ := Aside0.mk (below_drew1 HB.out)
         clear BK136
         clear HB
         have BK136 := n0_
         have HB := n1_
         clear n0_ n1_
         have p140 : 0 ≤ (0 : Int) := (by omega)
         have q140 : 0 < ((l0.drop ((ji7) : Int).toNat).length : Int) := of_decide_eq_true (by first | (with_reducible assumption) | assumption)
         obtain ⟨ad140, e140, hx140_0⟩ := Kd.at_int HR138.out 0 p140 q140
         have hw140_0 := hx140_0
         (try rw [show ((0 : Int)).toNat = 0 from rfl] at hw140_0)
         (try rw [show 0 * 1 = 0 from rfl] at hw140_0)
         (try rw [Addr.add_zero'] at hw140_0)
         cases e140
         have qi140 : (0 < (l0.drop ((ji7) : Int).toNat).length) = True := eq_true (by omega)
         (try (have qi140d := qi140; simp only [List.length_drop, List.length_take] at qi140d))
         (try rw [show ((0 : Int)).toNat = 0 from rfl] at hx140_0)
         (try rw [Addr.add_zero'] at hx140_0)
         replace hx140_0 := (HB.out.cell (World.block_lt_of_cell? w _ hx140_0)).trans hx140_0
         replace p140 := eq_true p140
         replace q140 := eq_true q140
         (try (have q140d := q140; simp only [List.length_drop, List.length_take] at q140d))
         have p141 : 0 ≤ (1 : Int) := (by omega)
         have q141 : 1 < ((l0.drop ((ji7) : Int).toNat).length : Int) := of_decide_eq_true (by first | (with_reducible assumption) | assumption)
         obtain ⟨ad141, e141, hx141_0⟩ := Kd.at_int HR138.out 1 p141 q141
         have hw141_0 := hx141_0
         (try rw [show ((1 : Int)).toNat = 1 from rfl] at hw141_0)
         (try rw [show 1 * 1 = 1 from rfl] at hw141_0)
         (try simp only [Nat.reduceMul, Nat.reduceEqDiff, Go.Addr.add, ↓reduceIte] at hw141_0)
         obtain rfl : ad140 = ad141 := (by injection e141)
         (try simp only [show (1 : Int).toNat = 1 from rfl, Nat.reduceMul, Nat.reduceEqDiff, Go.Addr.add, ↓reduceIte] at hx141_0)
         have qi141 : (1 < (l0.drop ((ji7) : Int).toNat).length) = True := eq_true (by omega)
         (try (have qi141d := qi141; simp only [List.length_drop, List.length_take] at qi141d))
         (try rw [show ((1 : Int)).toNat = 1 from rfl] at hx141_0)
         replace hx141_0 := (HB.out.cell (World.block_lt_of_cell? w _ hx141_0)).trans hx141_0
         replace p141 := eq_true p141
         replace q141 := eq_true q141
         (try (have q141d := q141; simp only [List.length_drop, List.length_take] at q141d))
         refine start_ (n := 13) (S := fun w' => w'.cell? ad140 = some (.int .u8 (rd (l0.drop ((ji7) : Int).toNat) 0)) ∧ w'.cell? ⟨ad140.block, ad140.off + 1, none⟩ = some (.int .u8 (rd (l0.drop ((ji7) : Int).toNat) 1))) (ds := []) (bu 13 0) (by kernel_rfl) rfl rfl ⟨((HB.out.cell (World.block_lt_of_cell? w _ hw140_0)).trans hw140_0), ((HB.out.cell (World.block_lt_of_cell? w _ hw141_0)).trans hw141_0)⟩ (fun hHeld => ?_); refine with_tabW frame_Read.tab4 frame_Read.bits4 (fun HT_ HW_ => ?_)
         generalize w59.drew = w62 at BK136 HB hx140_0 hx141_0 hHeld ⊢
         refine pA 0 28 (bu 13 1) ?_ HT_ rfl rfl (.inl ⟨by rfl, ?_⟩) ?_ ?_ ?_; rotate_left; (focus intro w'; go_simp; with_reducible rfl); rotate_left; (focus simp only [pk]; rfl)
         refine pA 2 30 (bm 13 0x5) ?_ HT_ rfl rfl (.inl ⟨by rfl, ?_⟩) ?_ ?_ ?_; rotate_left; (focus intro w'; go_simp; with_reducible rfl); rotate_left; (focus simp only [pk]; rfl)
         refine pA 3 31 (bm 13 0xd) ?_ HT_ rfl rfl (.inl ⟨by rfl, ?_⟩) ?_ ?_ ?_; rotate_left; (focus intro w'; go_simp; with_reducible rfl); rotate_left; (focus simp only [pk]; rfl)
         refine pA 6 34 (bm 13 0x4d) ?_ HT_ rfl rfl (.inl ⟨by rfl, ?_⟩) ?_ ?_ ?_; rotate_left; (focus intro w'; go_simp; with_reducible rfl); rotate_left; (focus simp only [pk]; rfl)
         refine pA 7 35 (bm 13 0xcd) ?_ HT_ rfl rfl (.inl ⟨by rfl, ?_⟩) ?_ ?_ ?_; rotate_left; (focus intro w'; go_simp; with_reducible rfl); rotate_left; (focus simp only [pk]; rfl)
         refine tA 4 32 (bm 13 0xdd) ?_ HT_ HW_ rfl rfl (.inl ⟨by rfl, ?_⟩) hHeld ?_ ?_ ?_; rotate_left; (focus rintro w' ⟨s0, s1⟩; go_simp; with_reducible rfl); rotate_left; (focus simp only [pk]; rfl)
         refine pA 5 33 (bm 13 0xfd) ?_ HT_ rfl rfl (.inl ⟨by rfl, ?_⟩) ?_ ?_ ?_; rotate_left; (focus intro w'; go_simp; with_reducible rfl); rotate_left; (focus simp only [pk]; rfl)
         refine tA 8 36 (bm 13 0x1fd) ?_ HT_ HW_ rfl rfl (.inl ⟨by rfl, ?_⟩) hHeld ?_ ?_ ?_; rotate_left; (focus rintro w' ⟨s0, s1⟩; go_simp; with_reducible rfl); rotate_left; (focus simp only [pk]; rfl)
         refine pA 9 37 (bm 13 0x3fd) ?_ HT_ rfl rfl (.inl ⟨by rfl, ?_⟩) ?_ ?_ ?_; rotate_left; (focus intro w'; go_simp; with_reducible rfl); rotate_left; (focus simp only [pk]; rfl)
         refine pA 10 38 (bm 13 0x7fd) ?_ HT_ rfl rfl (.inl ⟨by rfl, ?_⟩) ?_ ?_ ?_; rotate_left; (focus intro w'; go_simp; with_reducible rfl); rotate_left; (focus simp only [pk]; rfl)
         refine pA 11 39 (bm 13 0xffd) ?_ HT_ rfl rfl (.inl ⟨by rfl, ?_⟩) ?_ ?_ ?_; rotate_left; (focus intro w'; go_simp; with_reducible rfl); rotate_left; (focus simp only [pk]; rfl)
         refine one_ (i := 1) (N := some 29) (bu 13 12) rfl rfl (one_of HT_.out (by kernel_rfl)) (by decide) (fun K hK => ?_)
         refine goes_ Try.func25 (by kernel_rfl) rfl #[.slice A0 (l0.take ((ji7) : Int).toNat).length c0] (by rfl) rfl rfl (by (try simp only [List.map_toArray, List.map_cons, List.map_nil]); first | done | (rw [show (l0.take ((ji7) : Int).toNat).length = (ji7).toNat from (by rw [List.length_take]; have h_ : ((ji7) : Int) ≤ (l0.length : Int) := of_decide_eq_true (by first | (with_reducible assumption) | assumption); omega)] <;> rfl) | (simp only [hji7]; rfl) | rfl | (simp only [List.length_drop, List.length_take]; rfl) | (go_simp; done) | (go_simp; rfl)) ?_
         with_reducible refine (sums_Short.calls kj1 _ _ (l0.take ((ji7) : Int).toNat) t139 _ ?side1 ?side2 A12.out).mono ?_
         (case side1 => first | with_reducible exact (Kd.C_below HR137.out HB.out) | exact sC ((Kd.C_below HR137.out HB.out)))
         (case side2 => exact HC137.out)
         rintro e w63 ⟨rfl, hb⟩
         refine ⟨_, rfl, ?_⟩
         have n0_ := Aside0.mk (bK BK136.out hb)
         have n1_ := Aside0.mk (below_step (by repeat (first | (with_reducible first | exact HB.out | apply b1 | apply b2 | apply b3 | refine below_set ?_ GE136.out) | exact HB.out)) hb)
         clear BK136
         clear HB
         have BK136 := n0_
         have HB := n1_
         clear n0_ n1_
         (try clear hb)
         (try clear hb2)
         (try clear hk)
         (try clear hi)
         refine hK.out _ _ ⟨((HB.out.cell (World.block_lt_of_cell? w _ hw140_0)).trans hw140_0), ((HB.out.cell (World.block_lt_of_cell? w _ hw141_0)).trans hw141_0)⟩ (fun hHeld => ?_)
         clear hK K
         refine norm_ (a' := ?_) ?_ ?_
         rotate_left
         ·show Act.put _ (some 29) _ = _
          simp only [Act.put, List.setIfInBounds_toArray, List.set_cons_zero, List.set_cons_succ, i64_w, i32_w]
          rfl
         refine pA 12 40 (bu 13 13) ?_ HT_ rfl rfl (.inl ⟨by rfl, ?_⟩) ?_ ?_ ?_; rotate_left; (focus intro w'; go_simp; with_reducible rfl); rotate_left; (focus simp only [pk]; rfl)
         refine done_ (done_of HT_.out (by kernel_rfl)) ?_
         have hcz64_0 : w63.cell? ⟨gb136, 0, none⟩ = some (.int .i64 0) := (blk_cell BK136.out 0).trans rfl
         have hcz64_1 : w63.cell? ⟨gb136, 1, none⟩ = some (.int .i64 0) := (blk_cell BK136.out 1).trans rfl
         have hcz64_2 : w63.cell? ⟨gb136, 2, none⟩ = some (.int .i64 0) := (blk_cell BK136.out 2).trans rfl
         have hcz64_3 : w63.cell? ⟨gb136, 3, none⟩ = some (.int .i64 0) := (blk_cell BK136.out 3).trans rfl
         have hcz64_4 : w63.cell? ⟨gb136, 4, none⟩ = some (.slice none 0 0) := (blk_cell BK136.out 4).trans rfl
         have hfz64_0 := blk_frozen BK136.out 0
         have hfz64_1 := blk_frozen BK136.out 1
         have hfz64_2 := blk_frozen BK136.out 2
         have hfz64_3 := blk_frozen BK136.out 3
         have hfz64_4 := blk_frozen BK136.out 4
         try go_wp2
         refine bodyPost_ret (results_ct rfl _ _ gb136 24 #[.int .i64 0, .int .i64 0, .int .i64 0, .int .i64 0, .slice none 0 0] (0, 0) _ rfl (by (with_reducible repeat (first | refine k2 ?_ _ | refine k3 ?_ | refine k1 ?_ _)); refine blk_put (cs := #[.int .i64 0, .int .i64 0, .int .i64 0, .int .i64 0, .slice none 0 0]) ?_ 4 _ rfl; (with_reducible repeat (first | refine k2 ?_ _ | refine k3 ?_ | refine k1 ?_ _)); refine blk_put (cs := #[.int .i64 0, .int .i64 0, .int .i64 0, .int .i64 0, .slice none 0 0]) ?_ 3 _ rfl; (with_reducible repeat (first | refine k2 ?_ _ | refine k3 ?_ | refine k1 ?_ _)); refine blk_put (cs := #[.int .i64 0, .int .i64 0, .int .i64 0, .int .i64 0, .slice none 0 0]) ?_ 2 _ rfl; (with_reducible repeat (first | refine k2 ?_ _ | refine k3 ?_ | refine k1 ?_ _)); refine blk_put (cs := #[.int .i64 0, .int .i64 0, .int .i64 0, .int .i64 0, .slice none 0 0]) ?_ 1 _ rfl; (with_reducible repeat (first | refine k2 ?_ _ | refine k3 ?_ | refine k1 ?_ _)); refine blk_put (cs := #[.int .i64 0, .int .i64 0, .int .i64 0, .int .i64 0, .slice none 0 0]) ?_ 0 _ rfl; (with_reducible repeat (first | refine k2 ?_ _ | refine k3 ?_ | refine k1 ?_ _)); exact BK136.out) Try.underlying24 rfl (by kernel_rfl)) rfl ?_
         exact ⟨_, by first | rfl | (simp [errW_none, errW_some] <;> rfl) | (simp only [← hji7]; first | rfl | (simp [errW_none, errW_some] <;> rfl)) | (simp [*, errW_none, errW_some] <;> rfl), by first | exact Kd.R_nil _ _ _ _ _ | exact Kd.N_nil _ _ _ _ _ | exact Kd.V_nil _ _ _ _ _ | exact Kd.Q_nil _ _ _ _ _ | exact Kd.S_nil _ _ _ _ _, by repeat (first | (with_reducible first | exact HB.out | apply b1 | apply b2 | apply b3 | refine below_set ?_ GE136.out) | exact HB.out)⟩
       ·rw [if_neg c14] at H
        exact absurd H (by simp)
      ·rw [if_neg c13] at H
       exact absurd H (by simp)
     ·rw [if_neg c9] at H
      exact absurd H (by simp)
    ·rw [if_neg c8] at H
     exact absurd H (by simp)

end Go.Proofs.Ytcomabcmjhlabaa.FA
