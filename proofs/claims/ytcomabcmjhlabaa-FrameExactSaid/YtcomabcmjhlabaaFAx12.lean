/- Functions of the program, each told as a plain Lean function, and that the program computes it: written by this session's own program. -/
import Derived.Test.YtcomabcmjhlabaaFAx0
import Derived.Test.YtcomabcmjhlabaaFAx6
import Derived.Test.YtcomabcmjhlabaaFAx7
import Derived.Test.YtcomabcmjhlabaaFAx11
namespace Go.Proofs.Ytcomabcmjhlabaa.FA
open Go.RowKit Go.Proofs.YtcomabcmjhlabaaW.PrintWords Go.Proofs.YtcomabcmjhlabaaW.PrintLast Go.Proofs.YtcomabcmjhlabaaW.PrintMore
attribute [local go_sem] max2_int min2_int max_two min_two max_three min_three max_four min_four   -- for this text's walks alone
set_option linter.unusedVariables false
set_option linter.unusedSimpArgs false

/-! ### wherryref18_ReadFrame: function 19 -/
def wherryref18_ReadFrame.f (k : Nat) (l0 : List Int) : Option (Int × Int × Int × Int × List Int × Int) := (wherryref18_in.f (l0.length : Int) 9 57).bind fun t319 => (if t319 = true then (if 0 ≤ (wrap64 ((l0.length : Int) - 2)) then (if (wrap64 ((l0.length : Int) - 2)) ≤ (l0.length : Int) then ((wherryref08_Short.f k (l0.take ((wrap64 ((l0.length : Int) - 2)) : Int).toNat)).bind fun t321 => (if (wrap64 ((l0.length : Int) - 2)) < (l0.length : Int) then (if 0 ≤ (wrap64 ((wrap64 ((l0.length : Int) - 2)) + 1)) then (if (wrap64 ((wrap64 ((l0.length : Int) - 2)) + 1)) < (l0.length : Int) then (if t321 = (Go.bits .or .i64 (wrap64 (rd l0 (wrap64 ((l0.length : Int) - 2)))) (wrap64 ((wrap64 (rd l0 (wrap64 ((wrap64 ((l0.length : Int) - 2)) + 1)))) * 256))) then (if 0 < (l0.length : Int) then (if 1 < (l0.length : Int) then (if 2 < (l0.length : Int) then (if 3 < (l0.length : Int) then (if 4 < (l0.length : Int) then (if 5 < (l0.length : Int) then (if 7 ≤ (wrap64 ((l0.length : Int) - 2)) then ((wherrykeep_Twin.f ((l0.take ((wrap64 ((l0.length : Int) - 2)) : Int).toNat).drop 7)).bind fun t331 => (if 6 < (l0.length : Int) then (if (wrap64 (rd l0 6)) = (t331.length : Int) then ((wherryref18_Frame.f k (wrap64 (rd l0 0)) (Go.bits .or .i64 (wrap64 ((wrap64 (rd l0 1)) * 256)) (wrap64 (rd l0 2))) (Go.bits .or .i64 (wrap64 ((wrap64 (rd l0 3)) * 256)) (wrap64 (rd l0 4))) (wrap64 (rd l0 5)) t331).bind fun t336 => (if t336 = true then (some (wrap64 (rd l0 0), Go.bits .or .i64 (wrap64 ((wrap64 (rd l0 1)) * 256)) (wrap64 (rd l0 2)), Go.bits .or .i64 (wrap64 ((wrap64 (rd l0 3)) * 256)) (wrap64 (rd l0 4)), wrap64 (rd l0 5), t331, 0)) else (some (0, 0, 0, 0, ([] : List Int), 3)))) else (some (0, 0, 0, 0, ([] : List Int), 3))) else (none))) else (none)) else (none)) else (none)) else (none)) else (none)) else (none)) else (none)) else (some (0, 0, 0, 0, ([] : List Int), 6))) else (none)) else (none)) else (none))) else (none)) else (none)) else (some (0, 0, 0, 0, ([] : List Int), 3)))
theorem wherryref18_ReadFrame.mono : ∀ a0 k, LeO (wherryref18_ReadFrame.f k a0) (wherryref18_ReadFrame.f (k + 1) a0) := by
 intro a0 k
 unfold wherryref18_ReadFrame.f
 repeat' first
   | (with_reducible exact wherryref08_Short.mono _ _)
   | (with_reducible exact wherryref18_Frame.mono _ _ _ _ _ _)
   | (with_reducible exact LeO.refl _)
   | (with_reducible exact LeO.none _)
   | (with_reducible refine LeO.ite ?_ ?_)
   | (with_reducible refine LeO.bind ?_ (fun _ => ?_))
   | exact wherryref08_Short.mono _ _
   | exact wherryref18_Frame.mono _ _ _ _ _ _
   | exact LeO.none _
   | refine LeO.ite ?_ ?_
   | refine LeO.bind ?_ (fun _ => ?_)
def wherryref18_ReadFrame.T4 : Bool × List (List Nat × List Nat) := (true, [([], []), ([], []), ([0, 1], [0, 1]), ([2], [2]), ([], []), ([], []), ([4, 5], [4, 5]), ([6], [6]), ([7], [7]), ([], []), ([], []), ([10], [10]), ([9, 11], [9, 11]), ([12], [12]), ([13], [13]), ([14], [14]), ([8, 15], [8, 15]), ([3, 16], [3, 16])])
def wherryref18_ReadFrame.B4 : List Nat := [0, 0, 3, 7, 0, 0, 48, 112, 240, 0, 0, 1024, 3584, 7680, 15872, 32256, 65520, 131071]
theorem wherryref18_ReadFrame.tab4 : rtab .any (opsOf Try.f19 4) = wherryref18_ReadFrame.T4 := by kernel_rfl
theorem wherryref18_ReadFrame.bits4 : waitsOk wherryref18_ReadFrame.T4.2 wherryref18_ReadFrame.B4 = true := by kernel_rfl
def wherryref18_ReadFrame.T6 : Bool × List (List Nat × List Nat) := (true, [([], []), ([0], [0]), ([1], [1]), ([2], [2]), ([], []), ([4], [4]), ([5], [5]), ([6], [6]), ([7], [7]), ([], []), ([9], [9]), ([10], [10]), ([11], [11]), ([8, 12], [8, 12]), ([], []), ([14], [14]), ([15], [15]), ([16], [16]), ([17], [17]), ([], []), ([19], [19]), ([20], [20]), ([21], [21]), ([18, 22], [18, 22]), ([], []), ([24], [24]), ([25], [25]), ([26], [26]), ([], []), ([], []), ([28, 29], [28, 29]), ([30], [30]), ([3, 13, 23, 27, 31], [3, 13, 23, 27, 31]), ([], []), ([33, 32, 31, 0, 1, 2, 3, 4, 5, 6, 7, 8, 9, 10, 11, 12, 13, 14, 15, 16, 17, 18, 19, 20, 21, 22, 23, 24, 25, 26, 27, 28, 29, 30, 31, 32, 33], [32, 33])])
def wherryref18_ReadFrame.B6 : List Nat := [0, 1, 3, 7, 0, 16, 48, 112, 240, 0, 512, 1536, 3584, 8176, 0, 16384, 49152, 114688, 245760, 0, 524288, 1572864, 3670016, 8372224, 0, 16777216, 50331648, 117440512, 0, 0, 805306368, 1879048192, 4294967295, 0, 17179869183]
theorem wherryref18_ReadFrame.tab6 : rtab .any (opsOf Try.f19 6) = wherryref18_ReadFrame.T6 := by kernel_rfl
theorem wherryref18_ReadFrame.bits6 : waitsOk wherryref18_ReadFrame.T6.2 wherryref18_ReadFrame.B6 = true := by kernel_rfl
def wherryref18_ReadFrame.T7 : Bool × List (List Nat × List Nat) := (true, [([], []), ([0], [0]), ([1], [1]), ([2], [2]), ([], []), ([4], [4]), ([5], [5]), ([3, 6], [3, 6]), ([7], [7]), ([8], [8]), ([9, 8, 8], [8, 9]), ([10, 8], [8, 10]), ([8, 11], [8, 11])])
def wherryref18_ReadFrame.B7 : List Nat := [0, 1, 3, 7, 0, 16, 48, 127, 255, 511, 1023, 2047, 4095]
theorem wherryref18_ReadFrame.tab7 : rtab .any (opsOf Try.f19 7) = wherryref18_ReadFrame.T7 := by kernel_rfl
theorem wherryref18_ReadFrame.bits7 : waitsOk wherryref18_ReadFrame.T7.2 wherryref18_ReadFrame.B7 = true := by kernel_rfl
set_option maxHeartbeats 8000000 in
set_option maxRecDepth 100000 in
theorem wherryref18_ReadFrame.calls (k : Nat) (A0 : Option Addr) (c0 : Nat) (l0 : List Int) (r1 : Int) (r2 : Int) (r3 : Int) (r4 : Int) (r5 : List Int) (r6 : Int) (w : World) (hr0 : Kd.C (Kd.int .u8) w A0 l0.length l0) (hc0 : l0.length ≤ c0) (h : wherryref18_ReadFrame.f k l0 = some (r1, r2, r3, r4, r5, r6)) :
  Calls Try.prog 19 #[.slice A0 l0.length c0] w fun e w' => ∃ v4_ : Value, e = .returned (.tuple #[.agg #[.int .i64 r1, .int .i64 r2, .int .i64 r3, .int .i64 r4, v4_], .int .i64 r6]) ∧ Kd.R (Kd.int .u8) 5 w' w.heap.size (fun _ => True) v4_ r5 ∧ Below w.heap.size w w' := by
 have hu24 := Try.underlying24
 have HR0 := Aside0.mk hr0
 have HC0 := Aside0.mk hc0
 clear hr0 hc0
 have HB := Aside0.mk (Below.refl w.heap.size w)
 have H : ((wherryref18_in.f (l0.length : Int) 9 57).bind fun t319 => (if t319 = true then (if 0 ≤ (wrap64 ((l0.length : Int) - 2)) then (if (wrap64 ((l0.length : Int) - 2)) ≤ (l0.length : Int) then ((wherryref08_Short.f k (l0.take ((wrap64 ((l0.length : Int) - 2)) : Int).toNat)).bind fun t321 => (if (wrap64 ((l0.length : Int) - 2)) < (l0.length : Int) then (if 0 ≤ (wrap64 ((wrap64 ((l0.length : Int) - 2)) + 1)) then (if (wrap64 ((wrap64 ((l0.length : Int) - 2)) + 1)) < (l0.length : Int) then (if t321 = (Go.bits .or .i64 (wrap64 (rd l0 (wrap64 ((l0.length : Int) - 2)))) (wrap64 ((wrap64 (rd l0 (wrap64 ((wrap64 ((l0.length : Int) - 2)) + 1)))) * 256))) then (if 0 < (l0.length : Int) then (if 1 < (l0.length : Int) then (if 2 < (l0.length : Int) then (if 3 < (l0.length : Int) then (if 4 < (l0.length : Int) then (if 5 < (l0.length : Int) then (if 7 ≤ (wrap64 ((l0.length : Int) - 2)) then ((wherrykeep_Twin.f ((l0.take ((wrap64 ((l0.length : Int) - 2)) : Int).toNat).drop 7)).bind fun t331 => (if 6 < (l0.length : Int) then (if (wrap64 (rd l0 6)) = (t331.length : Int) then ((wherryref18_Frame.f k (wrap64 (rd l0 0)) (Go.bits .or .i64 (wrap64 ((wrap64 (rd l0 1)) * 256)) (wrap64 (rd l0 2))) (Go.bits .or .i64 (wrap64 ((wrap64 (rd l0 3)) * 256)) (wrap64 (rd l0 4))) (wrap64 (rd l0 5)) t331).bind fun t336 => (if t336 = true then (some (wrap64 (rd l0 0), Go.bits .or .i64 (wrap64 ((wrap64 (rd l0 1)) * 256)) (wrap64 (rd l0 2)), Go.bits .or .i64 (wrap64 ((wrap64 (rd l0 3)) * 256)) (wrap64 (rd l0 4)), wrap64 (rd l0 5), t331, 0)) else (some (0, 0, 0, 0, ([] : List Int), 3)))) else (some (0, 0, 0, 0, ([] : List Int), 3))) else (none))) else (none)) else (none)) else (none)) else (none)) else (none)) else (none)) else (none)) else (some (0, 0, 0, 0, ([] : List Int), 6))) else (none)) else (none)) else (none))) else (none)) else (none)) else (some (0, 0, 0, 0, ([] : List Int), 3)))) = some (r1, r2, r3, r4, r5, r6) := h
 clear h
 replace H := Option.bind_eq_some_iff.mp H
 obtain ⟨t319, A20, H⟩ := H
 replace H : (if t319 = true then (if 0 ≤ (wrap64 ((l0.length : Int) - 2)) then (if (wrap64 ((l0.length : Int) - 2)) ≤ (l0.length : Int) then ((wherryref08_Short.f k (l0.take ((wrap64 ((l0.length : Int) - 2)) : Int).toNat)).bind fun t321 => (if (wrap64 ((l0.length : Int) - 2)) < (l0.length : Int) then (if 0 ≤ (wrap64 ((wrap64 ((l0.length : Int) - 2)) + 1)) then (if (wrap64 ((wrap64 ((l0.length : Int) - 2)) + 1)) < (l0.length : Int) then (if t321 = (Go.bits .or .i64 (wrap64 (rd l0 (wrap64 ((l0.length : Int) - 2)))) (wrap64 ((wrap64 (rd l0 (wrap64 ((wrap64 ((l0.length : Int) - 2)) + 1)))) * 256))) then (if 0 < (l0.length : Int) then (if 1 < (l0.length : Int) then (if 2 < (l0.length : Int) then (if 3 < (l0.length : Int) then (if 4 < (l0.length : Int) then (if 5 < (l0.length : Int) then (if 7 ≤ (wrap64 ((l0.length : Int) - 2)) then ((wherrykeep_Twin.f ((l0.take ((wrap64 ((l0.length : Int) - 2)) : Int).toNat).drop 7)).bind fun t331 => (if 6 < (l0.length : Int) then (if (wrap64 (rd l0 6)) = (t331.length : Int) then ((wherryref18_Frame.f k (wrap64 (rd l0 0)) (Go.bits .or .i64 (wrap64 ((wrap64 (rd l0 1)) * 256)) (wrap64 (rd l0 2))) (Go.bits .or .i64 (wrap64 ((wrap64 (rd l0 3)) * 256)) (wrap64 (rd l0 4))) (wrap64 (rd l0 5)) t331).bind fun t336 => (if t336 = true then (some (wrap64 (rd l0 0), Go.bits .or .i64 (wrap64 ((wrap64 (rd l0 1)) * 256)) (wrap64 (rd l0 2)), Go.bits .or .i64 (wrap64 ((wrap64 (rd l0 3)) * 256)) (wrap64 (rd l0 4)), wrap64 (rd l0 5), t331, 0)) else (some (0, 0, 0, 0, ([] : List Int), 3)))) else (some (0, 0, 0, 0, ([] : List Int), 3))) else (none))) else (none)) else (none)) else (none)) else (none)) else (none)) else (none)) else (none)) else (some (0, 0, 0, 0, ([] : List Int), 6))) else (none)) else (none)) else (none))) else (none)) else (none)) else (some (0, 0, 0, 0, ([] : List Int), 3))) = some (r1, r2, r3, r4, r5, r6) := H
 have A2 := Aside0.mk A20
 clear A20
 by_cases c3 : t319 = true
 ·subst c3
  have H1 : (if 0 ≤ (wrap64 ((l0.length : Int) - 2)) then (if (wrap64 ((l0.length : Int) - 2)) ≤ (l0.length : Int) then ((wherryref08_Short.f k (l0.take ((wrap64 ((l0.length : Int) - 2)) : Int).toNat)).bind fun t321 => (if (wrap64 ((l0.length : Int) - 2)) < (l0.length : Int) then (if 0 ≤ (wrap64 ((wrap64 ((l0.length : Int) - 2)) + 1)) then (if (wrap64 ((wrap64 ((l0.length : Int) - 2)) + 1)) < (l0.length : Int) then (if t321 = (Go.bits .or .i64 (wrap64 (rd l0 (wrap64 ((l0.length : Int) - 2)))) (wrap64 ((wrap64 (rd l0 (wrap64 ((wrap64 ((l0.length : Int) - 2)) + 1)))) * 256))) then (if 0 < (l0.length : Int) then (if 1 < (l0.length : Int) then (if 2 < (l0.length : Int) then (if 3 < (l0.length : Int) then (if 4 < (l0.length : Int) then (if 5 < (l0.length : Int) then (if 7 ≤ (wrap64 ((l0.length : Int) - 2)) then ((wherrykeep_Twin.f ((l0.take ((wrap64 ((l0.length : Int) - 2)) : Int).toNat).drop 7)).bind fun t331 => (if 6 < (l0.length : Int) then (if (wrap64 (rd l0 6)) = (t331.length : Int) then ((wherryref18_Frame.f k (wrap64 (rd l0 0)) (Go.bits .or .i64 (wrap64 ((wrap64 (rd l0 1)) * 256)) (wrap64 (rd l0 2))) (Go.bits .or .i64 (wrap64 ((wrap64 (rd l0 3)) * 256)) (wrap64 (rd l0 4))) (wrap64 (rd l0 5)) t331).bind fun t336 => (if t336 = true then (some (wrap64 (rd l0 0), Go.bits .or .i64 (wrap64 ((wrap64 (rd l0 1)) * 256)) (wrap64 (rd l0 2)), Go.bits .or .i64 (wrap64 ((wrap64 (rd l0 3)) * 256)) (wrap64 (rd l0 4)), wrap64 (rd l0 5), t331, 0)) else (some (0, 0, 0, 0, ([] : List Int), 3)))) else (some (0, 0, 0, 0, ([] : List Int), 3))) else (none))) else (none)) else (none)) else (none)) else (none)) else (none)) else (none)) else (none)) else (some (0, 0, 0, 0, ([] : List Int), 6))) else (none)) else (none)) else (none))) else (none)) else (none)) = some (r1, r2, r3, r4, r5, r6) := by rw [if_pos rfl] at H; exact H
  clear H
  have H := H1
  clear H1
  obtain ⟨ji4, hji4⟩ : ∃ j_ : Int, (wrap64 ((l0.length : Int) - 2)) = j_ := ⟨_, rfl⟩
  replace H : (if 0 ≤ (ji4) then (if (ji4) ≤ (l0.length : Int) then ((wherryref08_Short.f k (l0.take ((ji4) : Int).toNat)).bind fun t321 => (if (ji4) < (l0.length : Int) then (if 0 ≤ (wrap64 ((ji4) + 1)) then (if (wrap64 ((ji4) + 1)) < (l0.length : Int) then (if t321 = (Go.bits .or .i64 (wrap64 (rd l0 (ji4))) (wrap64 ((wrap64 (rd l0 (wrap64 ((ji4) + 1)))) * 256))) then (if 0 < (l0.length : Int) then (if 1 < (l0.length : Int) then (if 2 < (l0.length : Int) then (if 3 < (l0.length : Int) then (if 4 < (l0.length : Int) then (if 5 < (l0.length : Int) then (if 7 ≤ (ji4) then ((wherrykeep_Twin.f ((l0.take ((ji4) : Int).toNat).drop 7)).bind fun t331 => (if 6 < (l0.length : Int) then (if (wrap64 (rd l0 6)) = (t331.length : Int) then ((wherryref18_Frame.f k (wrap64 (rd l0 0)) (Go.bits .or .i64 (wrap64 ((wrap64 (rd l0 1)) * 256)) (wrap64 (rd l0 2))) (Go.bits .or .i64 (wrap64 ((wrap64 (rd l0 3)) * 256)) (wrap64 (rd l0 4))) (wrap64 (rd l0 5)) t331).bind fun t336 => (if t336 = true then (some (wrap64 (rd l0 0), Go.bits .or .i64 (wrap64 ((wrap64 (rd l0 1)) * 256)) (wrap64 (rd l0 2)), Go.bits .or .i64 (wrap64 ((wrap64 (rd l0 3)) * 256)) (wrap64 (rd l0 4)), wrap64 (rd l0 5), t331, 0)) else (some (0, 0, 0, 0, ([] : List Int), 3)))) else (some (0, 0, 0, 0, ([] : List Int), 3))) else (none))) else (none)) else (none)) else (none)) else (none)) else (none)) else (none)) else (none)) else (some (0, 0, 0, 0, ([] : List Int), 6))) else (none)) else (none)) else (none))) else (none)) else (none)) = some (r1, r2, r3, r4, r5, r6) := by first | (rw [hji4] at H; exact H) | (simp only [hji4] at H ⊢; exact H)
  (try rw [hji4] at A2)
  have hji4w : (IntKind.i64.wrap ((l0.length : Int) - 2)) = ji4 := (i64_w _).trans hji4
  by_cases c5 : 0 ≤ (ji4)
  ·rw [if_pos c5] at H
   have c5b0 := eq_true c5
   have c5b1 : decide (0 ≤ (ji4)) = true := decide_eq_true c5
   clear c5
   by_cases c6 : (ji4) ≤ (l0.length : Int)
   ·rw [if_pos c6] at H
    have c6b0 := eq_true c6
    have c6b1 : decide ((ji4) ≤ (l0.length : Int)) = true := decide_eq_true c6
    clear c6
    replace H := Option.bind_eq_some_iff.mp H
    obtain ⟨t321, A70, H⟩ := H
    replace H : (if (ji4) < (l0.length : Int) then (if 0 ≤ (wrap64 ((ji4) + 1)) then (if (wrap64 ((ji4) + 1)) < (l0.length : Int) then (if t321 = (Go.bits .or .i64 (wrap64 (rd l0 (ji4))) (wrap64 ((wrap64 (rd l0 (wrap64 ((ji4) + 1)))) * 256))) then (if 0 < (l0.length : Int) then (if 1 < (l0.length : Int) then (if 2 < (l0.length : Int) then (if 3 < (l0.length : Int) then (if 4 < (l0.length : Int) then (if 5 < (l0.length : Int) then (if 7 ≤ (ji4) then ((wherrykeep_Twin.f ((l0.take ((ji4) : Int).toNat).drop 7)).bind fun t331 => (if 6 < (l0.length : Int) then (if (wrap64 (rd l0 6)) = (t331.length : Int) then ((wherryref18_Frame.f k (wrap64 (rd l0 0)) (Go.bits .or .i64 (wrap64 ((wrap64 (rd l0 1)) * 256)) (wrap64 (rd l0 2))) (Go.bits .or .i64 (wrap64 ((wrap64 (rd l0 3)) * 256)) (wrap64 (rd l0 4))) (wrap64 (rd l0 5)) t331).bind fun t336 => (if t336 = true then (some (wrap64 (rd l0 0), Go.bits .or .i64 (wrap64 ((wrap64 (rd l0 1)) * 256)) (wrap64 (rd l0 2)), Go.bits .or .i64 (wrap64 ((wrap64 (rd l0 3)) * 256)) (wrap64 (rd l0 4)), wrap64 (rd l0 5), t331, 0)) else (some (0, 0, 0, 0, ([] : List Int), 3)))) else (some (0, 0, 0, 0, ([] : List Int), 3))) else (none))) else (none)) else (none)) else (none)) else (none)) else (none)) else (none)) else (none)) else (some (0, 0, 0, 0, ([] : List Int), 6))) else (none)) else (none)) else (none)) = some (r1, r2, r3, r4, r5, r6) := H
    have A7 := Aside0.mk A70
    clear A70
    by_cases c8 : (ji4) < (l0.length : Int)
    ·rw [if_pos c8] at H
     have c8b0 : decide ((ji4) < (l0.length : Int)) = true := decide_eq_true c8
     clear c8
     obtain ⟨ji9, hji9⟩ : ∃ j_ : Int, (wrap64 ((ji4) + 1)) = j_ := ⟨_, rfl⟩
     replace H : (if 0 ≤ (ji9) then (if (ji9) < (l0.length : Int) then (if t321 = (Go.bits .or .i64 (wrap64 (rd l0 (ji4))) (wrap64 ((wrap64 (rd l0 (ji9))) * 256))) then (if 0 < (l0.length : Int) then (if 1 < (l0.length : Int) then (if 2 < (l0.length : Int) then (if 3 < (l0.length : Int) then (if 4 < (l0.length : Int) then (if 5 < (l0.length : Int) then (if 7 ≤ (ji4) then ((wherrykeep_Twin.f ((l0.take ((ji4) : Int).toNat).drop 7)).bind fun t331 => (if 6 < (l0.length : Int) then (if (wrap64 (rd l0 6)) = (t331.length : Int) then ((wherryref18_Frame.f k (wrap64 (rd l0 0)) (Go.bits .or .i64 (wrap64 ((wrap64 (rd l0 1)) * 256)) (wrap64 (rd l0 2))) (Go.bits .or .i64 (wrap64 ((wrap64 (rd l0 3)) * 256)) (wrap64 (rd l0 4))) (wrap64 (rd l0 5)) t331).bind fun t336 => (if t336 = true then (some (wrap64 (rd l0 0), Go.bits .or .i64 (wrap64 ((wrap64 (rd l0 1)) * 256)) (wrap64 (rd l0 2)), Go.bits .or .i64 (wrap64 ((wrap64 (rd l0 3)) * 256)) (wrap64 (rd l0 4)), wrap64 (rd l0 5), t331, 0)) else (some (0, 0, 0, 0, ([] : List Int), 3)))) else (some (0, 0, 0, 0, ([] : List Int), 3))) else (none))) else (none)) else (none)) else (none)) else (none)) else (none)) else (none)) else (none)) else (some (0, 0, 0, 0, ([] : List Int), 6))) else (none)) else (none)) = some (r1, r2, r3, r4, r5, r6) := by first | (rw [hji9] at H; exact H) | (simp only [hji9] at H ⊢; exact H)
     (try rw [hji9] at A2)
     (try rw [hji9] at A7)
     have hji9w : (IntKind.i64.wrap ((ji4) + 1)) = ji9 := (i64_w _).trans hji9
     by_cases c10 : 0 ≤ (ji9)
     ·rw [if_pos c10] at H
      have c10b0 : decide (0 ≤ (ji9)) = true := decide_eq_true c10
      clear c10
      by_cases c11 : (ji9) < (l0.length : Int)
      ·rw [if_pos c11] at H
       have c11b0 : decide ((ji9) < (l0.length : Int)) = true := decide_eq_true c11
       clear c11
       by_cases c12 : t321 = (Go.bits .or .i64 (wrap64 (rd l0 (ji4))) (wrap64 ((wrap64 (rd l0 (ji9))) * 256)))
       ·rw [if_pos c12] at H
        have c12b0 : (t321 == (Go.bits .or .i64 (wrap64 (rd l0 (ji4))) (wrap64 ((wrap64 (rd l0 (ji9))) * 256)))) = true := beq_iff_eq.mpr c12
        have c12b1 : (t321 != (Go.bits .or .i64 (wrap64 (rd l0 (ji4))) (wrap64 ((wrap64 (rd l0 (ji9))) * 256)))) = false := bne_eq_false_iff_eq.mpr c12
        clear c12
        by_cases c13 : 0 < (l0.length : Int)
        ·rw [if_pos c13] at H
         have c13b0 : decide (0 < (l0.length : Int)) = true := decide_eq_true c13
         have c13b1 : decide (0 < l0.length) = true := decide_eq_true (by omega)
         clear c13
         by_cases c14 : 1 < (l0.length : Int)
         ·rw [if_pos c14] at H
          have c14b0 : decide (1 < (l0.length : Int)) = true := decide_eq_true c14
          have c14b1 : decide (1 < l0.length) = true := decide_eq_true (by omega)
          clear c14
          by_cases c15 : 2 < (l0.length : Int)
          ·rw [if_pos c15] at H
           have c15b0 : decide (2 < (l0.length : Int)) = true := decide_eq_true c15
           have c15b1 : decide (2 < l0.length) = true := decide_eq_true (by omega)
           clear c15
           by_cases c16 : 3 < (l0.length : Int)
           ·rw [if_pos c16] at H
            have c16b0 : decide (3 < (l0.length : Int)) = true := decide_eq_true c16
            have c16b1 : decide (3 < l0.length) = true := decide_eq_true (by omega)
            clear c16
            by_cases c17 : 4 < (l0.length : Int)
            ·rw [if_pos c17] at H
             have c17b0 : decide (4 < (l0.length : Int)) = true := decide_eq_true c17
             have c17b1 : decide (4 < l0.length) = true := decide_eq_true (by omega)
             clear c17
             by_cases c18 : 5 < (l0.length : Int)
             ·rw [if_pos c18] at H
              have c18b0 : decide (5 < (l0.length : Int)) = true := decide_eq_true c18
              have c18b1 : decide (5 < l0.length) = true := decide_eq_true (by omega)
              clear c18
              by_cases c19 : 7 ≤ (ji4)
              ·rw [if_pos c19] at H
               have c19b0 := eq_true c19
               have c19b1 : decide (7 ≤ (ji4)) = true := decide_eq_true c19
               clear c19
               have c20b0 := eq_true (of_decide_eq_true (by first | (with_reducible assumption) | assumption) : (ji4) ≤ (l0.length : Int))
               replace H := Option.bind_eq_some_iff.mp H
               obtain ⟨t331, A210, H⟩ := H
               replace H : (if 6 < (l0.length : Int) then (if (wrap64 (rd l0 6)) = (t331.length : Int) then ((wherryref18_Frame.f k (wrap64 (rd l0 0)) (Go.bits .or .i64 (wrap64 ((wrap64 (rd l0 1)) * 256)) (wrap64 (rd l0 2))) (Go.bits .or .i64 (wrap64 ((wrap64 (rd l0 3)) * 256)) (wrap64 (rd l0 4))) (wrap64 (rd l0 5)) t331).bind fun t336 => (if t336 = true then (some (wrap64 (rd l0 0), Go.bits .or .i64 (wrap64 ((wrap64 (rd l0 1)) * 256)) (wrap64 (rd l0 2)), Go.bits .or .i64 (wrap64 ((wrap64 (rd l0 3)) * 256)) (wrap64 (rd l0 4)), wrap64 (rd l0 5), t331, 0)) else (some (0, 0, 0, 0, ([] : List Int), 3)))) else (some (0, 0, 0, 0, ([] : List Int), 3))) else (none)) = some (r1, r2, r3, r4, r5, r6) := H
               have A21 := Aside0.mk A210
               clear A210
               by_cases c22 : 6 < (l0.length : Int)
               ·rw [if_pos c22] at H
                have c22b0 : decide (6 < (l0.length : Int)) = true := decide_eq_true c22
                have c22b1 : decide (6 < l0.length) = true := decide_eq_true (by omega)
                clear c22
                by_cases c23 : (wrap64 (rd l0 6)) = (t331.length : Int)
                ·rw [if_pos c23] at H
                 have c23b0 : ((wrap64 (rd l0 6)) == (t331.length : Int)) = true := beq_iff_eq.mpr c23
                 have c23b1 : ((wrap64 (rd l0 6)) != (t331.length : Int)) = false := bne_eq_false_iff_eq.mpr c23
                 clear c23
                 replace H := Option.bind_eq_some_iff.mp H
                 obtain ⟨t336, A240, H⟩ := H
                 replace H : (if t336 = true then (some (wrap64 (rd l0 0), Go.bits .or .i64 (wrap64 ((wrap64 (rd l0 1)) * 256)) (wrap64 (rd l0 2)), Go.bits .or .i64 (wrap64 ((wrap64 (rd l0 3)) * 256)) (wrap64 (rd l0 4)), wrap64 (rd l0 5), t331, 0)) else (some (0, 0, 0, 0, ([] : List Int), 3))) = some (r1, r2, r3, r4, r5, r6) := H
                 have A24 := Aside0.mk A240
                 clear A240
                 by_cases c25 : t336 = true
                 ·subst c25
                  have H1 : (some (wrap64 (rd l0 0), Go.bits .or .i64 (wrap64 ((wrap64 (rd l0 1)) * 256)) (wrap64 (rd l0 2)), Go.bits .or .i64 (wrap64 ((wrap64 (rd l0 3)) * 256)) (wrap64 (rd l0 4)), wrap64 (rd l0 5), t331, 0)) = some (r1, r2, r3, r4, r5, r6) := by rw [if_pos rfl] at H; exact H
                  clear H
                  have H := H1
                  clear H1
                  simp only [Option.some.injEq, Prod.mk.injEq] at H
                  obtain ⟨rfl, rfl, rfl, rfl, rfl, rfl⟩ := H
                  go_enter Try.func19, Try.ntmps19
                  try go_wp2_with (first | ((with_reducible refine gate_dst (N := 2) rfl ?_); refine box_event ?hg (N := 2) ?hd (cs := #[.int .i64 0, .int .i64 0, .int .i64 0, .int .i64 0, .slice none 0 0]) (t := 24) ?hr ?_; (case hd => rfl); (case hg => rfl); (case hr => first | (go_simp; done) | (go_simp; rfl)); intro gb318 hg w26 hbox hb; have n0_ := Aside0.mk (below_step (by first | with_reducible exact HB.out | exact sB HB.out) hb); have n1_ := Aside0.mk (hbox); have n2_ := Aside0.mk ((by rw [hg]; exact (below_size (by first | with_reducible exact HB.out | exact sB HB.out)) : w.heap.size ≤ gb318)); have n3_ := Aside0.mk ((by rw [hg]; exact (below_size (by first | with_reducible exact HB.out | exact sB HB.out)) : w.heap.size ≤ gb318)); clear HB; have HB := n0_; have BK318 := n1_; have GW318 := n2_; have GE318 := n3_; clear n0_ n1_ n2_ n3_; clear hb hbox hg) | ((with_reducible refine gate_callee (f := 28) rfl ?_); refine goesL_ (some 8) rfl rfl Try.func28 (by kernel_rfl) rfl #[.int .i64 (l0.length : Int), .int .i64 9, .int .i64 57] rfl (by (try simp only [List.map_toArray, List.map_cons, List.map_nil]); first | done | rfl | (simp only [List.length_drop, List.length_take]; rfl) | (go_simp; done) | (go_simp; rfl)) ?_; (with_reducible refine (wherryref18_in.calls (l0.length : Int) 9 57 true _ A2.out).mono ?_); rintro e w' ⟨rfl, ⟨nd, rfl⟩⟩; refine ⟨_, rfl, ?_⟩; (try (rw [drewN_self w26]; generalize hq_ : World.drewN w26 _ = w26; have n0_ : Aside0 (w26.heap[gb318]? = some (.cells #[.int .i64 0, .int .i64 0, .int .i64 0, .int .i64 0, .slice none 0 0] 24 (0, 0))) := ⟨by rw [← hq_]; exact (by first | with_reducible exact BK318.out | exact sK BK318.out)⟩; have n1_ : Aside0 (Below w.heap.size w w26) := ⟨by rw [← hq_]; exact (by repeat (first | (with_reducible first | exact HB.out | apply b1 | apply b2 | apply b3 | refine below_set ?_ GE318.out) | exact HB.out))⟩; clear BK318 HB hq_; have BK318 := n0_; have HB := n1_; clear n0_ n1_))))
                  have n0_ := Aside0.mk (blk_drew BK318.out)
                  have n1_ := Aside0.mk (below_drew1 HB.out)
                  clear BK318
                  clear HB
                  have BK318 := n0_
                  have HB := n1_
                  clear n0_ n1_
                  obtain ⟨i028, hi028, _, hsz28, _⟩ := info_parts info5
                  obtain ⟨hcut28, hA28, hC28⟩ := print_take_of (P := Try.prog) (Value.int .u8) 0 22 5 .i64 Try.underlying22 hi028 hsz28 A0 c0 l0 (ji4) (of_decide_eq_true (by first | (with_reducible assumption) | assumption)) (of_decide_eq_true (by first | (with_reducible assumption) | assumption)) HC0.out
                  have HR320 := Aside0.mk (Kd.C_of_reads (h1 := fun _ => rfl) (hA28 _ (Kd.reads_of_C HR0.out)))
                  have HC320 := Aside0.mk hC28
                  clear hA28 hC28 hi028 hsz28
                  have p322 : 0 ≤ ((ji4) : Int) := of_decide_eq_true (by first | (with_reducible assumption) | assumption)
                  have q322 : (ji4) < (l0.length : Int) := of_decide_eq_true (by first | (with_reducible assumption) | assumption)
                  obtain ⟨ad322, e322, hx322_0⟩ := Kd.at_int HR0.out (ji4) p322 q322
                  have hw322_0 := hx322_0
                  cases e322
                  replace hx322_0 := (HB.out.cell (World.block_lt_of_cell? w _ hx322_0)).trans hx322_0
                  replace p322 := eq_true p322
                  replace q322 := eq_true q322
                  have p323 : 0 ≤ ((ji9) : Int) := of_decide_eq_true (by first | (with_reducible assumption) | assumption)
                  have q323 : (ji9) < (l0.length : Int) := of_decide_eq_true (by first | (with_reducible assumption) | assumption)
                  obtain ⟨ad323, e323, hx323_0⟩ := Kd.at_int HR0.out (ji9) p323 q323
                  have hw323_0 := hx323_0
                  obtain rfl : ad322 = ad323 := (by injection e323)
                  replace hx323_0 := (HB.out.cell (World.block_lt_of_cell? w _ hx323_0)).trans hx323_0
                  replace p323 := eq_true p323
                  replace q323 := eq_true q323
                  refine start_ (n := 18) (S := fun w' => w'.cell? (ad322.add ((ji4)).toNat) = some (.int .u8 (rd l0 (ji4))) ∧ w'.cell? (ad322.add ((ji9)).toNat) = some (.int .u8 (rd l0 (ji9)))) (ds := []) (bu 18 0) (by kernel_rfl) rfl rfl ⟨((HB.out.cell (World.block_lt_of_cell? w _ hw322_0)).trans hw322_0), ((HB.out.cell (World.block_lt_of_cell? w _ hw323_0)).trans hw323_0)⟩ (fun hHeld => ?_); refine with_tabW wherryref18_ReadFrame.tab4 wherryref18_ReadFrame.bits4 (fun HT_ HW_ => ?_)
                  generalize w26.drew = w27 at BK318 HB HR320 hx322_0 hx323_0 hHeld ⊢
                  refine pA 0 14 (bu 18 1) ?_ HT_ rfl rfl (.inl ⟨by rfl, ?_⟩) ?_ ?_ ?_; rotate_left; (focus intro w'; go_simp; with_reducible rfl); rotate_left; (focus simp only [pk]; rfl)
                  refine pA 1 15 (bu 18 2) ?_ HT_ rfl rfl (.inl ⟨by rfl, ?_⟩) ?_ ?_ ?_; rotate_left; (focus intro w'; go_simp; with_reducible rfl); rotate_left; (focus simp only [pk]; rfl)
                  refine pA 2 16 (bu 18 3) ?_ HT_ rfl rfl (.inl ⟨by rfl, ?_⟩) ?_ ?_ ?_; rotate_left; (focus intro w'; go_simp; with_reducible rfl); rotate_left; (focus simp only [pk]; rfl)
                  refine pA 4 18 (bm 18 0x17) ?_ HT_ rfl rfl (.inl ⟨by rfl, ?_⟩) ?_ ?_ ?_; rotate_left; (focus intro w'; go_simp; with_reducible rfl); rotate_left; (focus simp only [pk]; rfl)
                  refine pA 5 19 (bm 18 0x37) ?_ HT_ rfl rfl (.inl ⟨by rfl, ?_⟩) ?_ ?_ ?_; rotate_left; (focus intro w'; go_simp; with_reducible rfl); rotate_left; (focus simp only [pk]; rfl)
                  refine pA 6 20 (bm 18 0x77) ?_ HT_ rfl rfl (.inl ⟨by rfl, ?_⟩) ?_ ?_ ?_; rotate_left; (focus intro w'; go_simp; with_reducible rfl); rotate_left; (focus simp only [pk]; rfl)
                  refine pA 9 23 (bm 18 0x277) ?_ HT_ rfl rfl (.inl ⟨by rfl, ?_⟩) ?_ ?_ ?_; rotate_left; (focus intro w'; go_simp; with_reducible rfl); rotate_left; (focus simp only [pk]; rfl)
                  refine pA 10 24 (bm 18 0x677) ?_ HT_ rfl rfl (.inl ⟨by rfl, ?_⟩) ?_ ?_ ?_; rotate_left; (focus intro w'; go_simp; with_reducible rfl); rotate_left; (focus simp only [pk]; rfl)
                  refine pA 11 25 (bm 18 0xe77) ?_ HT_ rfl rfl (.inl ⟨by rfl, ?_⟩) ?_ ?_ ?_; rotate_left; (focus intro w'; go_simp; with_reducible rfl); rotate_left; (focus simp only [pk]; rfl)
                  refine pA 12 26 (bm 18 0x1e77) ?_ HT_ rfl rfl (.inl ⟨by rfl, ?_⟩) ?_ ?_ ?_; rotate_left; (focus intro w'; go_simp; with_reducible rfl); rotate_left; (focus simp only [pk]; rfl)
                  refine tA 7 21 (bm 18 0x1ef7) ?_ HT_ HW_ rfl rfl (.inl ⟨by rfl, ?_⟩) hHeld ?_ ?_ ?_; rotate_left; (focus rintro w' ⟨s0, s1⟩; go_simp; with_reducible rfl); rotate_left; (focus simp only [pk]; rfl)
                  refine pA 8 22 (bm 18 0x1ff7) ?_ HT_ rfl rfl (.inl ⟨by rfl, ?_⟩) ?_ ?_ ?_; rotate_left; (focus intro w'; go_simp; with_reducible rfl); rotate_left; (focus simp only [pk]; rfl)
                  refine tA 13 27 (bm 18 0x3ff7) ?_ HT_ HW_ rfl rfl (.inl ⟨by rfl, ?_⟩) hHeld ?_ ?_ ?_; rotate_left; (focus rintro w' ⟨s0, s1⟩; go_simp; with_reducible rfl); rotate_left; (focus simp only [pk]; rfl)
                  refine pA 14 28 (bm 18 0x7ff7) ?_ HT_ rfl rfl (.inl ⟨by rfl, ?_⟩) ?_ ?_ ?_; rotate_left; (focus intro w'; go_simp; with_reducible rfl); rotate_left; (focus simp only [pk]; rfl)
                  refine pA 15 29 (bm 18 0xfff7) ?_ HT_ rfl rfl (.inl ⟨by rfl, ?_⟩) ?_ ?_ ?_; rotate_left; (focus intro w'; go_simp; with_reducible rfl); rotate_left; (focus simp only [pk]; rfl)
                  refine pA 16 30 (bm 18 0x1fff7) ?_ HT_ rfl rfl (.inl ⟨by rfl, ?_⟩) ?_ ?_ ?_; rotate_left; (focus intro w'; go_simp; with_reducible rfl); rotate_left; (focus simp only [pk]; rfl)
                  refine one_ (i := 3) (N := some 17) (bu 18 17) rfl rfl (one_of HT_.out (by kernel_rfl)) (by decide) (fun K hK => ?_)
                  refine goes_ Try.func30 (by kernel_rfl) rfl #[.slice (some ad322) (l0.take ((ji4) : Int).toNat).length c0] (by rfl) rfl rfl (by (try simp only [List.map_toArray, List.map_cons, List.map_nil]); first | done | (rw [show (l0.take ((ji4) : Int).toNat).length = (ji4).toNat from (by rw [List.length_take]; have h_ : ((ji4) : Int) ≤ (l0.length : Int) := of_decide_eq_true (by first | (with_reducible assumption) | assumption); omega)] <;> rfl) | (simp only [hji4]; rfl) | rfl | (simp only [List.length_drop, List.length_take]; rfl) | (go_simp; done) | (go_simp; rfl)) ?_
                  with_reducible refine (wherryref08_Short.calls k _ _ (l0.take ((ji4) : Int).toNat) t321 _ ?side1 ?side2 A7.out).mono ?_
                  (case side1 => first | with_reducible exact (Kd.C_below HR320.out HB.out) | exact sC ((Kd.C_below HR320.out HB.out)))
                  (case side2 => exact HC320.out)
                  rintro e w' ⟨rfl, ⟨nd, rfl⟩⟩
                  refine ⟨_, rfl, ?_⟩
                  refine hK.out _ _ ⟨((HB.out.cell (World.block_lt_of_cell? w _ hw322_0)).trans hw322_0), ((HB.out.cell (World.block_lt_of_cell? w _ hw323_0)).trans hw323_0)⟩ (fun hHeld => ?_)
                  clear hK K
                  refine norm_ (a' := ?_) ?_ ?_
                  rotate_left
                  ·show Act.put _ (some 17) _ = _
                   simp only [Act.put, List.setIfInBounds_toArray, List.set_cons_zero, List.set_cons_succ, i64_w, i32_w]
                   rfl
                  refine pA 17 31 (bu 18 18) ?_ HT_ rfl rfl (.inl ⟨by rfl, ?_⟩) ?_ ?_ ?_; rotate_left; (focus intro w'; go_simp; with_reducible rfl); rotate_left; (focus simp only [pk]; rfl)
                  refine done_ (done_of HT_.out (by kernel_rfl)) ?_
                  try go_wp2
                  (try (rw [drewN_self w27]; generalize hq_ : World.drewN w27 _ = w27; have n0_ : Aside0 (w27.heap[gb318]? = some (.cells #[.int .i64 0, .int .i64 0, .int .i64 0, .int .i64 0, .slice none 0 0] 24 (0, 0))) := ⟨by rw [← hq_]; exact (by first | with_reducible exact BK318.out | exact sK BK318.out)⟩; have n1_ : Aside0 (Below w.heap.size w w27) := ⟨by rw [← hq_]; exact (by repeat (first | (with_reducible first | exact HB.out | apply b1 | apply b2 | apply b3 | refine below_set ?_ GE318.out) | exact HB.out))⟩; clear BK318 HB hq_; have BK318 := n0_; have HB := n1_; clear n0_ n1_))
                  have n0_ := Aside0.mk (blk_drew BK318.out)
                  have n1_ := Aside0.mk (below_drew1 HB.out)
                  clear BK318
                  clear HB
                  have BK318 := n0_
                  have HB := n1_
                  clear n0_ n1_
                  have p324 : 0 ≤ (0 : Int) := (by omega)
                  have q324 : 0 < (l0.length : Int) := of_decide_eq_true (by first | (with_reducible assumption) | assumption)
                  obtain ⟨ad324, e324, hx324_0⟩ := Kd.at_int HR0.out 0 p324 q324
                  have hw324_0 := hx324_0
                  (try rw [show ((0 : Int)).toNat = 0 from rfl] at hw324_0)
                  (try rw [show 0 * 1 = 0 from rfl] at hw324_0)
                  (try rw [Addr.add_zero'] at hw324_0)
                  obtain rfl : ad322 = ad324 := (by injection e324)
                  have qi324 : (0 < l0.length) = True := eq_true (by omega)
                  (try rw [show ((0 : Int)).toNat = 0 from rfl] at hx324_0)
                  (try rw [Addr.add_zero'] at hx324_0)
                  replace hx324_0 := (HB.out.cell (World.block_lt_of_cell? w _ hx324_0)).trans hx324_0
                  replace p324 := eq_true p324
                  replace q324 := eq_true q324
                  have p325 : 0 ≤ (1 : Int) := (by omega)
                  have q325 : 1 < (l0.length : Int) := of_decide_eq_true (by first | (with_reducible assumption) | assumption)
                  obtain ⟨ad325, e325, hx325_0⟩ := Kd.at_int HR0.out 1 p325 q325
                  have hw325_0 := hx325_0
                  (try rw [show ((1 : Int)).toNat = 1 from rfl] at hw325_0)
                  (try rw [show 1 * 1 = 1 from rfl] at hw325_0)
                  (try simp only [Nat.reduceMul, Nat.reduceEqDiff, Go.Addr.add, ↓reduceIte] at hw325_0)
                  obtain rfl : ad322 = ad325 := (by injection e325)
                  (try simp only [show (1 : Int).toNat = 1 from rfl, Nat.reduceMul, Nat.reduceEqDiff, Go.Addr.add, ↓reduceIte] at hx325_0)
                  have qi325 : (1 < l0.length) = True := eq_true (by omega)
                  (try rw [show ((1 : Int)).toNat = 1 from rfl] at hx325_0)
                  replace hx325_0 := (HB.out.cell (World.block_lt_of_cell? w _ hx325_0)).trans hx325_0
                  replace p325 := eq_true p325
                  replace q325 := eq_true q325
                  have p326 : 0 ≤ (2 : Int) := (by omega)
                  have q326 : 2 < (l0.length : Int) := of_decide_eq_true (by first | (with_reducible assumption) | assumption)
                  obtain ⟨ad326, e326, hx326_0⟩ := Kd.at_int HR0.out 2 p326 q326
                  have hw326_0 := hx326_0
                  (try rw [show ((2 : Int)).toNat = 2 from rfl] at hw326_0)
                  (try rw [show 2 * 1 = 2 from rfl] at hw326_0)
                  (try simp only [Nat.reduceMul, Nat.reduceEqDiff, Go.Addr.add, ↓reduceIte] at hw326_0)
                  obtain rfl : ad322 = ad326 := (by injection e326)
                  (try simp only [show (2 : Int).toNat = 2 from rfl, Nat.reduceMul, Nat.reduceEqDiff, Go.Addr.add, ↓reduceIte] at hx326_0)
                  have qi326 : (2 < l0.length) = True := eq_true (by omega)
                  (try rw [show ((2 : Int)).toNat = 2 from rfl] at hx326_0)
                  replace hx326_0 := (HB.out.cell (World.block_lt_of_cell? w _ hx326_0)).trans hx326_0
                  replace p326 := eq_true p326
                  replace q326 := eq_true q326
                  have p327 : 0 ≤ (3 : Int) := (by omega)
                  have q327 : 3 < (l0.length : Int) := of_decide_eq_true (by first | (with_reducible assumption) | assumption)
                  obtain ⟨ad327, e327, hx327_0⟩ := Kd.at_int HR0.out 3 p327 q327
                  have hw327_0 := hx327_0
                  (try rw [show ((3 : Int)).toNat = 3 from rfl] at hw327_0)
                  (try rw [show 3 * 1 = 3 from rfl] at hw327_0)
                  (try simp only [Nat.reduceMul, Nat.reduceEqDiff, Go.Addr.add, ↓reduceIte] at hw327_0)
                  obtain rfl : ad322 = ad327 := (by injection e327)
                  (try simp only [show (3 : Int).toNat = 3 from rfl, Nat.reduceMul, Nat.reduceEqDiff, Go.Addr.add, ↓reduceIte] at hx327_0)
                  have qi327 : (3 < l0.length) = True := eq_true (by omega)
                  (try rw [show ((3 : Int)).toNat = 3 from rfl] at hx327_0)
                  replace hx327_0 := (HB.out.cell (World.block_lt_of_cell? w _ hx327_0)).trans hx327_0
                  replace p327 := eq_true p327
                  replace q327 := eq_true q327
                  have p328 : 0 ≤ (4 : Int) := (by omega)
                  have q328 : 4 < (l0.length : Int) := of_decide_eq_true (by first | (with_reducible assumption) | assumption)
                  obtain ⟨ad328, e328, hx328_0⟩ := Kd.at_int HR0.out 4 p328 q328
                  have hw328_0 := hx328_0
                  (try rw [show ((4 : Int)).toNat = 4 from rfl] at hw328_0)
                  (try rw [show 4 * 1 = 4 from rfl] at hw328_0)
                  (try simp only [Nat.reduceMul, Nat.reduceEqDiff, Go.Addr.add, ↓reduceIte] at hw328_0)
                  obtain rfl : ad322 = ad328 := (by injection e328)
                  (try simp only [show (4 : Int).toNat = 4 from rfl, Nat.reduceMul, Nat.reduceEqDiff, Go.Addr.add, ↓reduceIte] at hx328_0)
                  have qi328 : (4 < l0.length) = True := eq_true (by omega)
                  (try rw [show ((4 : Int)).toNat = 4 from rfl] at hx328_0)
                  replace hx328_0 := (HB.out.cell (World.block_lt_of_cell? w _ hx328_0)).trans hx328_0
                  replace p328 := eq_true p328
                  replace q328 := eq_true q328
                  have p329 : 0 ≤ (5 : Int) := (by omega)
                  have q329 : 5 < (l0.length : Int) := of_decide_eq_true (by first | (with_reducible assumption) | assumption)
                  obtain ⟨ad329, e329, hx329_0⟩ := Kd.at_int HR0.out 5 p329 q329
                  have hw329_0 := hx329_0
                  (try rw [show ((5 : Int)).toNat = 5 from rfl] at hw329_0)
                  (try rw [show 5 * 1 = 5 from rfl] at hw329_0)
                  (try simp only [Nat.reduceMul, Nat.reduceEqDiff, Go.Addr.add, ↓reduceIte] at hw329_0)
                  obtain rfl : ad322 = ad329 := (by injection e329)
                  (try simp only [show (5 : Int).toNat = 5 from rfl, Nat.reduceMul, Nat.reduceEqDiff, Go.Addr.add, ↓reduceIte] at hx329_0)
                  have qi329 : (5 < l0.length) = True := eq_true (by omega)
                  (try rw [show ((5 : Int)).toNat = 5 from rfl] at hx329_0)
                  replace hx329_0 := (HB.out.cell (World.block_lt_of_cell? w _ hx329_0)).trans hx329_0
                  replace p329 := eq_true p329
                  replace q329 := eq_true q329
                  obtain ⟨i030, hi030, _, hsz30, _⟩ := info_parts info5
                  obtain ⟨A30, hcut30, hA30, hC30⟩ := print_mid_of (P := Try.prog) (Value.int .u8) 0 22 5 .i64 .i64 Try.underlying22 hi030 hsz30 (some ad322) c0 l0 7 (ji4) (by omega) (by first | omega | exact of_decide_eq_true (by first | (with_reducible assumption) | assumption)) (of_decide_eq_true (by first | (with_reducible assumption) | assumption)) HC0.out
                  have HR330 := Aside0.mk (Kd.C_of_reads (h1 := fun _ => rfl) (hA30 _ (Kd.reads_of_C HR0.out)))
                  have HC330 := Aside0.mk hC30
                  clear hA30 hC30 hi030 hsz30
                  refine start_ (n := 35) (S := fun w' => w'.cell? ad322 = some (.int .u8 (rd l0 0)) ∧ w'.cell? ⟨ad322.block, ad322.off + 1, none⟩ = some (.int .u8 (rd l0 1)) ∧ w'.cell? ⟨ad322.block, ad322.off + 2, none⟩ = some (.int .u8 (rd l0 2)) ∧ w'.cell? ⟨ad322.block, ad322.off + 3, none⟩ = some (.int .u8 (rd l0 3)) ∧ w'.cell? ⟨ad322.block, ad322.off + 4, none⟩ = some (.int .u8 (rd l0 4)) ∧ w'.cell? ⟨ad322.block, ad322.off + 5, none⟩ = some (.int .u8 (rd l0 5))) (ds := []) (bu 35 0) (by kernel_rfl) rfl rfl ⟨((HB.out.cell (World.block_lt_of_cell? w _ hw324_0)).trans hw324_0), ((HB.out.cell (World.block_lt_of_cell? w _ hw325_0)).trans hw325_0), ((HB.out.cell (World.block_lt_of_cell? w _ hw326_0)).trans hw326_0), ((HB.out.cell (World.block_lt_of_cell? w _ hw327_0)).trans hw327_0), ((HB.out.cell (World.block_lt_of_cell? w _ hw328_0)).trans hw328_0), ((HB.out.cell (World.block_lt_of_cell? w _ hw329_0)).trans hw329_0)⟩ (fun hHeld => ?_); refine with_tabW wherryref18_ReadFrame.tab6 wherryref18_ReadFrame.bits6 (fun HT_ HW_ => ?_)
                  generalize w27.drew = w29 at BK318 HB HR330 hx324_0 hx325_0 hx326_0 hx327_0 hx328_0 hx329_0 hHeld ⊢
                  refine pA 0 33 (bu 35 1) ?_ HT_ rfl rfl (.inl ⟨by rfl, ?_⟩) ?_ ?_ ?_; rotate_left; (focus intro w'; go_simp; with_reducible rfl); rotate_left; (focus simp only [pk]; rfl)
                  refine pA 1 34 (bu 35 2) ?_ HT_ rfl rfl (.inl ⟨by rfl, ?_⟩) ?_ ?_ ?_; rotate_left; (focus intro w'; go_simp; with_reducible rfl); rotate_left; (focus simp only [pk]; rfl)
                  refine pA 4 37 (bm 35 0x13) ?_ HT_ rfl rfl (.inl ⟨by rfl, ?_⟩) ?_ ?_ ?_; rotate_left; (focus intro w'; go_simp; with_reducible rfl); rotate_left; (focus simp only [pk]; rfl)
                  refine pA 5 38 (bm 35 0x33) ?_ HT_ rfl rfl (.inl ⟨by rfl, ?_⟩) ?_ ?_ ?_; rotate_left; (focus intro w'; go_simp; with_reducible rfl); rotate_left; (focus simp only [pk]; rfl)
                  refine pA 9 42 (bm 35 0x233) ?_ HT_ rfl rfl (.inl ⟨by rfl, ?_⟩) ?_ ?_ ?_; rotate_left; (focus intro w'; go_simp; with_reducible rfl); rotate_left; (focus simp only [pk]; rfl)
                  refine pA 10 43 (bm 35 0x633) ?_ HT_ rfl rfl (.inl ⟨by rfl, ?_⟩) ?_ ?_ ?_; rotate_left; (focus intro w'; go_simp; with_reducible rfl); rotate_left; (focus simp only [pk]; rfl)
                  refine pA 14 47 (bm 35 0x4633) ?_ HT_ rfl rfl (.inl ⟨by rfl, ?_⟩) ?_ ?_ ?_; rotate_left; (focus intro w'; go_simp; with_reducible rfl); rotate_left; (focus simp only [pk]; rfl)
                  refine pA 15 48 (bm 35 0xc633) ?_ HT_ rfl rfl (.inl ⟨by rfl, ?_⟩) ?_ ?_ ?_; rotate_left; (focus intro w'; go_simp; with_reducible rfl); rotate_left; (focus simp only [pk]; rfl)
                  refine pA 19 52 (bm 35 0x8c633) ?_ HT_ rfl rfl (.inl ⟨by rfl, ?_⟩) ?_ ?_ ?_; rotate_left; (focus intro w'; go_simp; with_reducible rfl); rotate_left; (focus simp only [pk]; rfl)
                  refine pA 20 53 (bm 35 0x18c633) ?_ HT_ rfl rfl (.inl ⟨by rfl, ?_⟩) ?_ ?_ ?_; rotate_left; (focus intro w'; go_simp; with_reducible rfl); rotate_left; (focus simp only [pk]; rfl)
                  refine pA 24 57 (bm 35 0x118c633) ?_ HT_ rfl rfl (.inl ⟨by rfl, ?_⟩) ?_ ?_ ?_; rotate_left; (focus intro w'; go_simp; with_reducible rfl); rotate_left; (focus simp only [pk]; rfl)
                  refine pA 25 58 (bm 35 0x318c633) ?_ HT_ rfl rfl (.inl ⟨by rfl, ?_⟩) ?_ ?_ ?_; rotate_left; (focus intro w'; go_simp; with_reducible rfl); rotate_left; (focus simp only [pk]; rfl)
                  refine pA 28 61 (bm 35 0x1318c633) ?_ HT_ rfl rfl (.inl ⟨by rfl, ?_⟩) ?_ ?_ ?_; rotate_left; (focus intro w'; go_simp; with_reducible rfl); rotate_left; (focus simp only [pk]; rfl)
                  refine pA 29 62 (bm 35 0x3318c633) ?_ HT_ rfl rfl (.inl ⟨by rfl, ?_⟩) ?_ ?_ ?_; rotate_left; (focus intro w'; go_simp; with_reducible rfl); rotate_left; (focus simp only [pk]; rfl)
                  refine pA 30 63 (bm 35 0x7318c633) ?_ HT_ rfl rfl (.inl ⟨by rfl, ?_⟩) ?_ ?_ ?_; rotate_left; (focus intro w'; go_simp; with_reducible rfl); rotate_left; (focus simp only [pk]; rfl)
                  refine tA 2 35 (bm 35 0x7318c637) ?_ HT_ HW_ rfl rfl (.inl ⟨by rfl, ?_⟩) hHeld ?_ ?_ ?_; rotate_left; (focus rintro w' ⟨s0, s1, s2, s3, s4, s5⟩; go_simp; with_reducible rfl); rotate_left; (focus simp only [pk]; rfl)
                  refine pA 3 36 (bm 35 0x7318c63f) ?_ HT_ rfl rfl (.inl ⟨by rfl, ?_⟩) ?_ ?_ ?_; rotate_left; (focus intro w'; go_simp; with_reducible rfl); rotate_left; (focus simp only [pk]; rfl)
                  refine tA 6 39 (bm 35 0x7318c67f) ?_ HT_ HW_ rfl rfl (.inl ⟨by rfl, ?_⟩) hHeld ?_ ?_ ?_; rotate_left; (focus rintro w' ⟨s0, s1, s2, s3, s4, s5⟩; go_simp; with_reducible rfl); rotate_left; (focus simp only [pk]; rfl)
                  refine pA 7 40 (bm 35 0x7318c6ff) ?_ HT_ rfl rfl (.inl ⟨by rfl, ?_⟩) ?_ ?_ ?_; rotate_left; (focus intro w'; go_simp; with_reducible rfl); rotate_left; (focus simp only [pk]; rfl)
                  refine pA 8 41 (bm 35 0x7318c7ff) ?_ HT_ rfl rfl (.inl ⟨by rfl, ?_⟩) ?_ ?_ ?_; rotate_left; (focus intro w'; go_simp; with_reducible rfl); rotate_left; (focus simp only [pk]; rfl)
                  refine tA 11 44 (bm 35 0x7318cfff) ?_ HT_ HW_ rfl rfl (.inl ⟨by rfl, ?_⟩) hHeld ?_ ?_ ?_; rotate_left; (focus rintro w' ⟨s0, s1, s2, s3, s4, s5⟩; go_simp; with_reducible rfl); rotate_left; (focus simp only [pk]; rfl)
                  refine pA 12 45 (bm 35 0x7318dfff) ?_ HT_ rfl rfl (.inl ⟨by rfl, ?_⟩) ?_ ?_ ?_; rotate_left; (focus intro w'; go_simp; with_reducible rfl); rotate_left; (focus simp only [pk]; rfl)
                  refine pA 13 46 (bm 35 0x7318ffff) ?_ HT_ rfl rfl (.inl ⟨by rfl, ?_⟩) ?_ ?_ ?_; rotate_left; (focus intro w'; go_simp; with_reducible rfl); rotate_left; (focus simp only [pk]; rfl)
                  refine tA 16 49 (bm 35 0x7319ffff) ?_ HT_ HW_ rfl rfl (.inl ⟨by rfl, ?_⟩) hHeld ?_ ?_ ?_; rotate_left; (focus rintro w' ⟨s0, s1, s2, s3, s4, s5⟩; go_simp; with_reducible rfl); rotate_left; (focus simp only [pk]; rfl)
                  refine pA 17 50 (bm 35 0x731bffff) ?_ HT_ rfl rfl (.inl ⟨by rfl, ?_⟩) ?_ ?_ ?_; rotate_left; (focus intro w'; go_simp; with_reducible rfl); rotate_left; (focus simp only [pk]; rfl)
                  refine pA 18 51 (bm 35 0x731fffff) ?_ HT_ rfl rfl (.inl ⟨by rfl, ?_⟩) ?_ ?_ ?_; rotate_left; (focus intro w'; go_simp; with_reducible rfl); rotate_left; (focus simp only [pk]; rfl)
                  refine tA 21 54 (bm 35 0x733fffff) ?_ HT_ HW_ rfl rfl (.inl ⟨by rfl, ?_⟩) hHeld ?_ ?_ ?_; rotate_left; (focus rintro w' ⟨s0, s1, s2, s3, s4, s5⟩; go_simp; with_reducible rfl); rotate_left; (focus simp only [pk]; rfl)
                  refine pA 22 55 (bm 35 0x737fffff) ?_ HT_ rfl rfl (.inl ⟨by rfl, ?_⟩) ?_ ?_ ?_; rotate_left; (focus intro w'; go_simp; with_reducible rfl); rotate_left; (focus simp only [pk]; rfl)
                  refine pA 23 56 (bm 35 0x73ffffff) ?_ HT_ rfl rfl (.inl ⟨by rfl, ?_⟩) ?_ ?_ ?_; rotate_left; (focus intro w'; go_simp; with_reducible rfl); rotate_left; (focus simp only [pk]; rfl)
                  refine tA 26 59 (bm 35 0x77ffffff) ?_ HT_ HW_ rfl rfl (.inl ⟨by rfl, ?_⟩) hHeld ?_ ?_ ?_; rotate_left; (focus rintro w' ⟨s0, s1, s2, s3, s4, s5⟩; go_simp; with_reducible rfl); rotate_left; (focus simp only [pk]; rfl)
                  refine pA 27 60 (bu 35 31) ?_ HT_ rfl rfl (.inl ⟨by rfl, ?_⟩) ?_ ?_ ?_; rotate_left; (focus intro w'; go_simp; with_reducible rfl); rotate_left; (focus simp only [pk]; rfl)
                  refine join_ (σ := Value × Nat) 1 (bu 35 34) (fun s_ => [(64, s_.1), (5, .pointer (some ⟨s_.2, 0, none⟩)), (65, .agg #[.int .i64 (wrap64 (rd l0 0)), .int .i64 (Go.bits .or .i64 (wrap64 ((wrap64 (rd l0 1)) * 256)) (wrap64 (rd l0 2))), .int .i64 (Go.bits .or .i64 (wrap64 ((wrap64 (rd l0 3)) * 256)) (wrap64 (rd l0 4))), .int .i64 (wrap64 (rd l0 5)), s_.1])]) (fun s_ w' => (w'.cell? ad322 = some (.int .u8 (rd l0 0)) ∧ w'.cell? ⟨ad322.block, ad322.off + 1, none⟩ = some (.int .u8 (rd l0 1)) ∧ w'.cell? ⟨ad322.block, ad322.off + 2, none⟩ = some (.int .u8 (rd l0 2)) ∧ w'.cell? ⟨ad322.block, ad322.off + 3, none⟩ = some (.int .u8 (rd l0 3)) ∧ w'.cell? ⟨ad322.block, ad322.off + 4, none⟩ = some (.int .u8 (rd l0 4)) ∧ w'.cell? ⟨ad322.block, ad322.off + 5, none⟩ = some (.int .u8 (rd l0 5))) ∧ (Kd.R (Kd.int .u8) 5 w' w.heap.size (fun _ => True) s_.1 t331) ∧ (w'.heap[gb318]? = some (.cells #[.int .i64 0, .int .i64 0, .int .i64 0, .int .i64 0, .slice none 0 0] 24 (0, 0))) ∧ (w'.heap[s_.2]? = some (.cells #[.int .i64 0, .int .i64 0, .int .i64 0, .int .i64 0, .slice none 0 0] 24 (0, 0))) ∧ (w.heap.size ≤ s_.2) ∧ (w.heap.size ≤ s_.2) ∧ (gb318 ≠ s_.2) ∧ (s_.2 ≠ gb318) ∧ (Below w.heap.size w w')) ?_ ?_
                  rotate_left
                  ·intro hCont
                   refine two_ (i := 31) (j := 33) (Ni := some 64) (Nj := some 5) (bu 35 32) (bm 35 0x27fffffff) rfl rfl rfl rfl (two_of HT_.out (by kernel_rfl)) (by decide) (by decide) (fun K hK => ?_) (fun K hK => ?_)
                   ·skip
                    refine goes_ Try.func15 (by kernel_rfl) rfl #[.slice A30 ((l0.take ((ji4) : Int).toNat).drop 7).length (c0 - 7)] (by rfl) rfl rfl (by (try simp only [List.map_toArray, List.map_cons, List.map_nil]); first | done | (rw [show ((l0.take ((ji4) : Int).toNat).drop 7).length = ((ji4).toNat - 7) from (by rw [List.length_drop, List.length_take]; have h_ : ((ji4) : Int) ≤ (l0.length : Int) := of_decide_eq_true (by first | (with_reducible assumption) | assumption); omega)] <;> rfl) | (simp only [hji4]; rfl) | rfl | (simp only [List.length_drop, List.length_take]; rfl) | (go_simp; done) | (go_simp; rfl)) ?_
                    with_reducible refine (wherrykeep_Twin.calls _ _ ((l0.take ((ji4) : Int).toNat).drop 7) t331 _ ?side1 ?side2 A21.out).mono ?_
                    (case side1 => first | with_reducible exact (Kd.C_below HR330.out HB.out) | exact sC ((Kd.C_below HR330.out HB.out)))
                    (case side2 => exact HC330.out)
                    rintro e w31 ⟨v332, rfl, ho0, hb⟩
                    refine ⟨_, rfl, ?_⟩
                    have n0_ := Aside0.mk (Kd.R_lower ho0 (below_size (by repeat (first | (with_reducible first | exact HB.out | apply b1 | apply b2 | apply b3 | refine below_set ?_ GE318.out) | exact HB.out))))
                    have n1_ := Aside0.mk (bK BK318.out hb)
                    have n2_ := Aside0.mk (below_step (by repeat (first | (with_reducible first | exact HB.out | apply b1 | apply b2 | apply b3 | refine below_set ?_ GE318.out) | exact HB.out)) hb)
                    clear BK318
                    clear HB
                    have HO333 := n0_
                    have BK318 := n1_
                    have HB := n2_
                    clear n0_ n1_ n2_
                    (try clear hb)
                    (try clear hb2)
                    (try clear hk)
                    (try clear hi)
                    (try clear ho0)
                    obtain ⟨Ao32, co32, eo32⟩ := Kd.R_slice HO333.out
                    (first | subst eo32 | (injection eo32 with f1_ f2_ f3_; have f4_ := f1_.symm; have f5_ := f3_.symm; clear f1_ f2_ f3_; subst f4_; subst f5_))
                    refine hK.out _ _ ⟨((HB.out.cell (World.block_lt_of_cell? w _ hw324_0)).trans hw324_0), ((HB.out.cell (World.block_lt_of_cell? w _ hw325_0)).trans hw325_0), ((HB.out.cell (World.block_lt_of_cell? w _ hw326_0)).trans hw326_0), ((HB.out.cell (World.block_lt_of_cell? w _ hw327_0)).trans hw327_0), ((HB.out.cell (World.block_lt_of_cell? w _ hw328_0)).trans hw328_0), ((HB.out.cell (World.block_lt_of_cell? w _ hw329_0)).trans hw329_0)⟩ (fun hHeld => ?_)
                    clear hK K
                    refine norm_ (a' := ?_) ?_ ?_
                    rotate_left
                    ·show Act.put _ (some 64) _ = _
                     simp only [Act.put, List.setIfInBounds_toArray, List.set_cons_zero, List.set_cons_succ, i64_w, i32_w]
                     rfl
                    refine pA 32 65 (bu 35 33) ?_ HT_ rfl rfl (.inl ⟨by rfl, ?_⟩) ?_ ?_ ?_; rotate_left; (focus intro w'; go_simp; with_reducible rfl); rotate_left; (focus simp only [pk]; rfl)
                    refine one_ (i := 33) (N := some 5) (bu 35 34) rfl rfl (one_of HT_.out (by kernel_rfl)) (by decide) (fun K hK => ?_)
                    refine box_step ?hg (N := 5) ?hd (cs := #[.int .i64 0, .int .i64 0, .int .i64 0, .int .i64 0, .slice none 0 0]) (t := 24) ?hr ?_; (case hd => rfl); (case hg => rfl); (case hr => first | (go_simp; done) | (go_simp; rfl))
                    intro gb334 hg w33 hbox hb
                    have n0_ := Aside0.mk (bR HO333.out hb)
                    have n1_ := Aside0.mk (bK BK318.out hb)
                    have n2_ := Aside0.mk (below_step (by repeat (first | (with_reducible first | exact HB.out | apply b1 | apply b2 | apply b3 | refine below_set ?_ GE318.out) | exact HB.out)) hb)
                    have n3_ := Aside0.mk (hbox)
                    have n4_ := Aside0.mk ((by rw [hg]; exact (below_size (by repeat (first | (with_reducible first | exact HB.out | apply b1 | apply b2 | apply b3 | refine below_set ?_ GE318.out) | exact HB.out))) : w.heap.size ≤ gb334))
                    have n5_ := Aside0.mk ((by rw [hg]; exact (below_size (by repeat (first | (with_reducible first | exact HB.out | apply b1 | apply b2 | apply b3 | refine below_set ?_ GE318.out) | exact HB.out))) : w.heap.size ≤ gb334))
                    have n6_ := Aside0.mk ((by rw [hg]; exact Nat.ne_of_lt (blk_lt (g := gb318) (o := .cells #[.int .i64 0, .int .i64 0, .int .i64 0, .int .i64 0, .slice none 0 0] 24 (0, 0)) (by first | with_reducible exact BK318.out | exact sK BK318.out)) : gb318 ≠ gb334))
                    have n7_ := Aside0.mk ((by rw [hg]; exact Nat.ne_of_gt (blk_lt (g := gb318) (o := .cells #[.int .i64 0, .int .i64 0, .int .i64 0, .int .i64 0, .slice none 0 0] 24 (0, 0)) (by first | with_reducible exact BK318.out | exact sK BK318.out)) : gb334 ≠ gb318))
                    clear HO333
                    clear BK318
                    clear HB
                    have HO333 := n0_
                    have BK318 := n1_
                    have HB := n2_
                    have BK334 := n3_
                    have GW334 := n4_
                    have GE334 := n5_
                    have NB318_334 := n6_
                    have NB334_318 := n7_
                    clear n0_ n1_ n2_ n3_ n4_ n5_ n6_ n7_
                    clear hb hbox hg
                    refine hK.out _ _ ⟨((HB.out.cell (World.block_lt_of_cell? w _ hw324_0)).trans hw324_0), ((HB.out.cell (World.block_lt_of_cell? w _ hw325_0)).trans hw325_0), ((HB.out.cell (World.block_lt_of_cell? w _ hw326_0)).trans hw326_0), ((HB.out.cell (World.block_lt_of_cell? w _ hw327_0)).trans hw327_0), ((HB.out.cell (World.block_lt_of_cell? w _ hw328_0)).trans hw328_0), ((HB.out.cell (World.block_lt_of_cell? w _ hw329_0)).trans hw329_0)⟩ (fun hHeld => ?_)
                    clear hK K
                    refine norm_ (a' := ?_) ?_ ?_
                    rotate_left
                    ·show Act.put _ (some 5) _ = _
                     simp only [Act.put, List.setIfInBounds_toArray, List.set_cons_zero, List.set_cons_succ, i64_w, i32_w]
                     rfl
                    exact norm_ (by simp only [putAll, Act.put, List.setIfInBounds_toArray, List.set_cons_zero, List.set_cons_succ]) (hCont (.slice Ao32 t331.length co32, gb334) _ ⟨hHeld, (by first | with_reducible exact HO333.out | exact sR HO333.out), (by first | with_reducible exact BK318.out | exact sK BK318.out), (by first | with_reducible exact BK334.out | exact sK BK334.out), GW334.out, GE334.out, NB318_334.out, NB334_318.out, (by repeat (first | (with_reducible first | exact HB.out | apply b1 | apply b2 | apply b3 | refine below_set ?_ GE318.out | refine below_set ?_ GE334.out) | exact HB.out))⟩)
                   ·skip
                    refine box_step ?hg (N := 5) ?hd (cs := #[.int .i64 0, .int .i64 0, .int .i64 0, .int .i64 0, .slice none 0 0]) (t := 24) ?hr ?_; (case hd => rfl); (case hg => rfl); (case hr => first | (go_simp; done) | (go_simp; rfl))
                    intro gb334 hg w31 hbox hb
                    have n0_ := Aside0.mk (bK BK318.out hb)
                    have n1_ := Aside0.mk (below_step (by repeat (first | (with_reducible first | exact HB.out | apply b1 | apply b2 | apply b3 | refine below_set ?_ GE318.out) | exact HB.out)) hb)
                    have n2_ := Aside0.mk (hbox)
                    have n3_ := Aside0.mk ((by rw [hg]; exact (below_size (by repeat (first | (with_reducible first | exact HB.out | apply b1 | apply b2 | apply b3 | refine below_set ?_ GE318.out) | exact HB.out))) : w.heap.size ≤ gb334))
                    have n4_ := Aside0.mk ((by rw [hg]; exact (below_size (by repeat (first | (with_reducible first | exact HB.out | apply b1 | apply b2 | apply b3 | refine below_set ?_ GE318.out) | exact HB.out))) : w.heap.size ≤ gb334))
                    have n5_ := Aside0.mk ((by rw [hg]; exact Nat.ne_of_lt (blk_lt (g := gb318) (o := .cells #[.int .i64 0, .int .i64 0, .int .i64 0, .int .i64 0, .slice none 0 0] 24 (0, 0)) (by first | with_reducible exact BK318.out | exact sK BK318.out)) : gb318 ≠ gb334))
                    have n6_ := Aside0.mk ((by rw [hg]; exact Nat.ne_of_gt (blk_lt (g := gb318) (o := .cells #[.int .i64 0, .int .i64 0, .int .i64 0, .int .i64 0, .slice none 0 0] 24 (0, 0)) (by first | with_reducible exact BK318.out | exact sK BK318.out)) : gb334 ≠ gb318))
                    clear BK318
                    clear HB
                    have BK318 := n0_
                    have HB := n1_
                    have BK334 := n2_
                    have GW334 := n3_
                    have GE334 := n4_
                    have NB318_334 := n5_
                    have NB334_318 := n6_
                    clear n0_ n1_ n2_ n3_ n4_ n5_ n6_
                    clear hb hbox hg
                    refine hK.out _ _ ⟨((HB.out.cell (World.block_lt_of_cell? w _ hw324_0)).trans hw324_0), ((HB.out.cell (World.block_lt_of_cell? w _ hw325_0)).trans hw325_0), ((HB.out.cell (World.block_lt_of_cell? w _ hw326_0)).trans hw326_0), ((HB.out.cell (World.block_lt_of_cell? w _ hw327_0)).trans hw327_0), ((HB.out.cell (World.block_lt_of_cell? w _ hw328_0)).trans hw328_0), ((HB.out.cell (World.block_lt_of_cell? w _ hw329_0)).trans hw329_0)⟩ (fun hHeld => ?_)
                    clear hK K
                    refine norm_ (a' := ?_) ?_ ?_
                    rotate_left
                    ·show Act.put _ (some 5) _ = _
                     simp only [Act.put, List.setIfInBounds_toArray, List.set_cons_zero, List.set_cons_succ, i64_w, i32_w]
                     rfl
                    refine one_ (i := 31) (N := some 64) (bm 35 0x2ffffffff) rfl rfl (one_of HT_.out (by kernel_rfl)) (by decide) (fun K hK => ?_)
                    refine goes_ Try.func15 (by kernel_rfl) rfl #[.slice A30 ((l0.take ((ji4) : Int).toNat).drop 7).length (c0 - 7)] (by rfl) rfl rfl (by (try simp only [List.map_toArray, List.map_cons, List.map_nil]); first | done | (rw [show ((l0.take ((ji4) : Int).toNat).drop 7).length = ((ji4).toNat - 7) from (by rw [List.length_drop, List.length_take]; have h_ : ((ji4) : Int) ≤ (l0.length : Int) := of_decide_eq_true (by first | (with_reducible assumption) | assumption); omega)] <;> rfl) | (simp only [hji4]; rfl) | rfl | (simp only [List.length_drop, List.length_take]; rfl) | (go_simp; done) | (go_simp; rfl)) ?_
                    with_reducible refine (wherrykeep_Twin.calls _ _ ((l0.take ((ji4) : Int).toNat).drop 7) t331 _ ?side1 ?side2 A21.out).mono ?_
                    (case side1 => first | with_reducible exact (Kd.C_below HR330.out HB.out) | exact sC ((Kd.C_below HR330.out HB.out)))
                    (case side2 => exact HC330.out)
                    rintro e w32 ⟨v332, rfl, ho0, hb⟩
                    refine ⟨_, rfl, ?_⟩
                    have n0_ := Aside0.mk (Kd.R_lower ho0 (below_size (by repeat (first | (with_reducible first | exact HB.out | apply b1 | apply b2 | apply b3 | refine below_set ?_ GE318.out | refine below_set ?_ GE334.out) | exact HB.out))))
                    have n1_ := Aside0.mk (bK BK318.out hb)
                    have n2_ := Aside0.mk (bK BK334.out hb)
                    have n3_ := Aside0.mk (below_step (by repeat (first | (with_reducible first | exact HB.out | apply b1 | apply b2 | apply b3 | refine below_set ?_ GE318.out | refine below_set ?_ GE334.out) | exact HB.out)) hb)
                    clear BK318
                    clear BK334
                    clear HB
                    have HO333 := n0_
                    have BK318 := n1_
                    have BK334 := n2_
                    have HB := n3_
                    clear n0_ n1_ n2_ n3_
                    (try clear hb)
                    (try clear hb2)
                    (try clear hk)
                    (try clear hi)
                    (try clear ho0)
                    obtain ⟨Ao33, co33, eo33⟩ := Kd.R_slice HO333.out
                    (first | subst eo33 | (injection eo33 with f1_ f2_ f3_; have f4_ := f1_.symm; have f5_ := f3_.symm; clear f1_ f2_ f3_; subst f4_; subst f5_))
                    refine hK.out _ _ ⟨((HB.out.cell (World.block_lt_of_cell? w _ hw324_0)).trans hw324_0), ((HB.out.cell (World.block_lt_of_cell? w _ hw325_0)).trans hw325_0), ((HB.out.cell (World.block_lt_of_cell? w _ hw326_0)).trans hw326_0), ((HB.out.cell (World.block_lt_of_cell? w _ hw327_0)).trans hw327_0), ((HB.out.cell (World.block_lt_of_cell? w _ hw328_0)).trans hw328_0), ((HB.out.cell (World.block_lt_of_cell? w _ hw329_0)).trans hw329_0)⟩ (fun hHeld => ?_)
                    clear hK K
                    refine norm_ (a' := ?_) ?_ ?_
                    rotate_left
                    ·show Act.put _ (some 64) _ = _
                     simp only [Act.put, List.setIfInBounds_toArray, List.set_cons_zero, List.set_cons_succ, i64_w, i32_w]
                     rfl
                    refine pA 32 65 (bu 35 34) ?_ HT_ rfl rfl (.inl ⟨by rfl, ?_⟩) ?_ ?_ ?_; rotate_left; (focus intro w'; go_simp; with_reducible rfl); rotate_left; (focus simp only [pk]; rfl)
                    exact norm_ (by simp only [putAll, Act.put, List.setIfInBounds_toArray, List.set_cons_zero, List.set_cons_succ]) (hCont (.slice Ao33 t331.length co33, gb334) _ ⟨hHeld, (by first | with_reducible exact HO333.out | exact sR HO333.out), (by first | with_reducible exact BK318.out | exact sK BK318.out), (by first | with_reducible exact BK334.out | exact sK BK334.out), GW334.out, GE334.out, NB318_334.out, NB334_318.out, (by repeat (first | (with_reducible first | exact HB.out | apply b1 | apply b2 | apply b3 | refine below_set ?_ GE318.out | refine below_set ?_ GE334.out) | exact HB.out))⟩)
                  rintro ⟨v332, gb334⟩ w34 ⟨hS_, h0_, h1_, h2_, h3_, h4_, h5_, h6_, h7_⟩
                  have n0_ : Aside0 (Kd.R (Kd.int .u8) 5 w34 w.heap.size (fun _ => True) v332 t331) := ⟨h0_⟩
                  have n1_ : Aside0 (w34.heap[gb318]? = some (.cells #[.int .i64 0, .int .i64 0, .int .i64 0, .int .i64 0, .slice none 0 0] 24 (0, 0))) := ⟨h1_⟩
                  have n2_ : Aside0 (w34.heap[gb334]? = some (.cells #[.int .i64 0, .int .i64 0, .int .i64 0, .int .i64 0, .slice none 0 0] 24 (0, 0))) := ⟨h2_⟩
                  have n3_ : Aside0 (w.heap.size ≤ gb334) := ⟨h3_⟩
                  have n4_ : Aside0 (w.heap.size ≤ gb334) := ⟨h4_⟩
                  have n5_ : Aside0 (gb318 ≠ gb334) := ⟨h5_⟩
                  have n6_ : Aside0 (gb334 ≠ gb318) := ⟨h6_⟩
                  have n7_ : Aside0 (Below w.heap.size w w34) := ⟨h7_⟩
                  clear BK318
                  clear HB
                  clear h0_ h1_ h2_ h3_ h4_ h5_ h6_ h7_
                  have HO333 := n0_
                  have BK318 := n1_
                  have BK334 := n2_
                  have GW334 := n3_
                  have GE334 := n4_
                  have NB318_334 := n5_
                  have NB334_318 := n6_
                  have HB := n7_
                  clear n0_ n1_ n2_ n3_ n4_ n5_ n6_ n7_
                  have hHeld : w34.cell? ad322 = some (.int .u8 (rd l0 0)) ∧ w34.cell? ⟨ad322.block, ad322.off + 1, none⟩ = some (.int .u8 (rd l0 1)) ∧ w34.cell? ⟨ad322.block, ad322.off + 2, none⟩ = some (.int .u8 (rd l0 2)) ∧ w34.cell? ⟨ad322.block, ad322.off + 3, none⟩ = some (.int .u8 (rd l0 3)) ∧ w34.cell? ⟨ad322.block, ad322.off + 4, none⟩ = some (.int .u8 (rd l0 4)) ∧ w34.cell? ⟨ad322.block, ad322.off + 5, none⟩ = some (.int .u8 (rd l0 5)) := hS_
                  obtain ⟨Ao35, co35, eo35⟩ := Kd.R_slice HO333.out
                  (first | subst eo35 | (injection eo35 with f1_ f2_ f3_; have f4_ := f1_.symm; have f5_ := f3_.symm; clear f1_ f2_ f3_; subst f4_; subst f5_))
                  refine norm_ (a' := ?_) ?_ ?_
                  rotate_left
                  ·simp only [putAll, Act.put, List.setIfInBounds_toArray, List.set_cons_zero, List.set_cons_succ]
                   rfl
                  refine one_ (i := 34) (N := none) (bu 35 35) rfl rfl (one_of HT_.out (by kernel_rfl)) (by decide) (fun K hK => ?_)
                  have hs36 : w34.cell? ⟨gb334, 0, none⟩ = some (.int .i64 0) := (blk_cell BK334.out 0).trans rfl
                  have hfs36 := blk_frozen BK334.out 0
                  have hns36_0 := NB318_334.out
                  have hms36_0 := NB334_318.out
                  have hs37 : w34.cell? ⟨gb334, 1, none⟩ = some (.int .i64 0) := (blk_cell BK334.out 1).trans rfl
                  have hfs37 := blk_frozen BK334.out 1
                  have hns37_0 := NB318_334.out
                  have hms37_0 := NB334_318.out
                  have hs38 : w34.cell? ⟨gb334, 2, none⟩ = some (.int .i64 0) := (blk_cell BK334.out 2).trans rfl
                  have hfs38 := blk_frozen BK334.out 2
                  have hns38_0 := NB318_334.out
                  have hms38_0 := NB334_318.out
                  have hs39 : w34.cell? ⟨gb334, 3, none⟩ = some (.int .i64 0) := (blk_cell BK334.out 3).trans rfl
                  have hfs39 := blk_frozen BK334.out 3
                  have hns39_0 := NB318_334.out
                  have hms39_0 := NB334_318.out
                  have hs40 : w34.cell? ⟨gb334, 4, none⟩ = some (.slice none 0 0) := (blk_cell BK334.out 4).trans rfl
                  have hfs40 := blk_frozen BK334.out 4
                  have hns40_0 := NB318_334.out
                  have hms40_0 := NB334_318.out
                  refine skip_ (w1 := ?_) (by rfl) rfl ?_ ?_
                  rotate_left
                  ·go_simp
                   rfl
                  refine hK.out _ _ ⟨((cell_far (p := ⟨gb334, _, none⟩) (neX hw324_0 GW334.out) _).trans (((cell_far (p := ⟨gb334, _, none⟩) (neX hw324_0 GW334.out) _).trans (((cell_far (p := ⟨gb334, _, none⟩) (neX hw324_0 GW334.out) _).trans (((cell_far (p := ⟨gb334, _, none⟩) (neX hw324_0 GW334.out) _).trans (((cell_far (p := ⟨gb334, _, none⟩) (neX hw324_0 GW334.out) _).trans (hHeld.1)))))))))), ((cell_far (p := ⟨gb334, _, none⟩) (neX hw325_0 GW334.out) _).trans (((cell_far (p := ⟨gb334, _, none⟩) (neX hw325_0 GW334.out) _).trans (((cell_far (p := ⟨gb334, _, none⟩) (neX hw325_0 GW334.out) _).trans (((cell_far (p := ⟨gb334, _, none⟩) (neX hw325_0 GW334.out) _).trans (((cell_far (p := ⟨gb334, _, none⟩) (neX hw325_0 GW334.out) _).trans (hHeld.2.1)))))))))), ((cell_far (p := ⟨gb334, _, none⟩) (neX hw326_0 GW334.out) _).trans (((cell_far (p := ⟨gb334, _, none⟩) (neX hw326_0 GW334.out) _).trans (((cell_far (p := ⟨gb334, _, none⟩) (neX hw326_0 GW334.out) _).trans (((cell_far (p := ⟨gb334, _, none⟩) (neX hw326_0 GW334.out) _).trans (((cell_far (p := ⟨gb334, _, none⟩) (neX hw326_0 GW334.out) _).trans (hHeld.2.2.1)))))))))), ((cell_far (p := ⟨gb334, _, none⟩) (neX hw327_0 GW334.out) _).trans (((cell_far (p := ⟨gb334, _, none⟩) (neX hw327_0 GW334.out) _).trans (((cell_far (p := ⟨gb334, _, none⟩) (neX hw327_0 GW334.out) _).trans (((cell_far (p := ⟨gb334, _, none⟩) (neX hw327_0 GW334.out) _).trans (((cell_far (p := ⟨gb334, _, none⟩) (neX hw327_0 GW334.out) _).trans (hHeld.2.2.2.1)))))))))), ((cell_far (p := ⟨gb334, _, none⟩) (neX hw328_0 GW334.out) _).trans (((cell_far (p := ⟨gb334, _, none⟩) (neX hw328_0 GW334.out) _).trans (((cell_far (p := ⟨gb334, _, none⟩) (neX hw328_0 GW334.out) _).trans (((cell_far (p := ⟨gb334, _, none⟩) (neX hw328_0 GW334.out) _).trans (((cell_far (p := ⟨gb334, _, none⟩) (neX hw328_0 GW334.out) _).trans (hHeld.2.2.2.2.1)))))))))), ((cell_far (p := ⟨gb334, _, none⟩) (neX hw329_0 GW334.out) _).trans (((cell_far (p := ⟨gb334, _, none⟩) (neX hw329_0 GW334.out) _).trans (((cell_far (p := ⟨gb334, _, none⟩) (neX hw329_0 GW334.out) _).trans (((cell_far (p := ⟨gb334, _, none⟩) (neX hw329_0 GW334.out) _).trans (((cell_far (p := ⟨gb334, _, none⟩) (neX hw329_0 GW334.out) _).trans (hHeld.2.2.2.2.2))))))))))⟩ (fun hHeld => ?_)
                  clear hK K
                  refine done_ (done_of HT_.out (by kernel_rfl)) ?_
                  try go_wp2
                  have n0_ : Aside0 (Kd.R (Kd.int .u8) 5 (((((w34.setCell ⟨gb334, 0, none⟩ (.int .i64 (wrap64 (rd l0 0)))).setCell ⟨gb334, 1, none⟩ (.int .i64 (Go.bits .or .i64 (wrap64 ((wrap64 (rd l0 1)) * 256)) (wrap64 (rd l0 2))))).setCell ⟨gb334, 2, none⟩ (.int .i64 (Go.bits .or .i64 (wrap64 ((wrap64 (rd l0 3)) * 256)) (wrap64 (rd l0 4))))).setCell ⟨gb334, 3, none⟩ (.int .i64 (wrap64 (rd l0 5)))).setCell ⟨gb334, 4, none⟩ (.slice Ao35 t331.length co35)) w.heap.size (fun _ => True) (.slice Ao35 t331.length co35) t331) := ⟨by (with_reducible repeat (first | apply R1 | apply R2 | apply R3)); exact Kd.R_mono (Kd.R_far (p := ⟨gb334, 4, none⟩) (Kd.R_far (p := ⟨gb334, 3, none⟩) (Kd.R_far (p := ⟨gb334, 2, none⟩) (Kd.R_far (p := ⟨gb334, 1, none⟩) (Kd.R_far (p := ⟨gb334, 0, none⟩) (Kd.R_types HO333.out BK334.out (by decide)) (fun _ hk => hk.2) (.int .i64 (wrap64 (rd l0 0)))) (fun _ hk => hk.2) (.int .i64 (Go.bits .or .i64 (wrap64 ((wrap64 (rd l0 1)) * 256)) (wrap64 (rd l0 2))))) (fun _ hk => hk.2) (.int .i64 (Go.bits .or .i64 (wrap64 ((wrap64 (rd l0 3)) * 256)) (wrap64 (rd l0 4))))) (fun _ hk => hk.2) (.int .i64 (wrap64 (rd l0 5)))) (fun _ hk => hk.2) (.slice Ao35 t331.length co35)) (fun _ hk => trivial)⟩
                  have n1_ : Aside0 ((((((w34.setCell ⟨gb334, 0, none⟩ (.int .i64 (wrap64 (rd l0 0)))).setCell ⟨gb334, 1, none⟩ (.int .i64 (Go.bits .or .i64 (wrap64 ((wrap64 (rd l0 1)) * 256)) (wrap64 (rd l0 2))))).setCell ⟨gb334, 2, none⟩ (.int .i64 (Go.bits .or .i64 (wrap64 ((wrap64 (rd l0 3)) * 256)) (wrap64 (rd l0 4))))).setCell ⟨gb334, 3, none⟩ (.int .i64 (wrap64 (rd l0 5)))).setCell ⟨gb334, 4, none⟩ (.slice Ao35 t331.length co35)).heap[gb318]? = some (.cells #[.int .i64 0, .int .i64 0, .int .i64 0, .int .i64 0, .slice none 0 0] 24 (0, 0))) := ⟨by (with_reducible repeat (first | refine k2 ?_ _ | refine k3 ?_ | refine k1 ?_ _)); refine blk_far ?_ NB318_334.out _; (with_reducible repeat (first | refine k2 ?_ _ | refine k3 ?_ | refine k1 ?_ _)); refine blk_far ?_ NB318_334.out _; (with_reducible repeat (first | refine k2 ?_ _ | refine k3 ?_ | refine k1 ?_ _)); refine blk_far ?_ NB318_334.out _; (with_reducible repeat (first | refine k2 ?_ _ | refine k3 ?_ | refine k1 ?_ _)); refine blk_far ?_ NB318_334.out _; (with_reducible repeat (first | refine k2 ?_ _ | refine k3 ?_ | refine k1 ?_ _)); refine blk_far ?_ NB318_334.out _; (with_reducible repeat (first | refine k2 ?_ _ | refine k3 ?_ | refine k1 ?_ _)); exact BK318.out⟩
                  have n2_ : Aside0 ((((((w34.setCell ⟨gb334, 0, none⟩ (.int .i64 (wrap64 (rd l0 0)))).setCell ⟨gb334, 1, none⟩ (.int .i64 (Go.bits .or .i64 (wrap64 ((wrap64 (rd l0 1)) * 256)) (wrap64 (rd l0 2))))).setCell ⟨gb334, 2, none⟩ (.int .i64 (Go.bits .or .i64 (wrap64 ((wrap64 (rd l0 3)) * 256)) (wrap64 (rd l0 4))))).setCell ⟨gb334, 3, none⟩ (.int .i64 (wrap64 (rd l0 5)))).setCell ⟨gb334, 4, none⟩ (.slice Ao35 t331.length co35)).heap[gb334]? = some (.cells #[.int .i64 (wrap64 (rd l0 0)), .int .i64 (Go.bits .or .i64 (wrap64 ((wrap64 (rd l0 1)) * 256)) (wrap64 (rd l0 2))), .int .i64 (Go.bits .or .i64 (wrap64 ((wrap64 (rd l0 3)) * 256)) (wrap64 (rd l0 4))), .int .i64 (wrap64 (rd l0 5)), .slice Ao35 t331.length co35] 24 (0, 0))) := ⟨by (with_reducible repeat (first | refine k2 ?_ _ | refine k3 ?_ | refine k1 ?_ _)); refine blk_put (cs := #[.int .i64 (wrap64 (rd l0 0)), .int .i64 (Go.bits .or .i64 (wrap64 ((wrap64 (rd l0 1)) * 256)) (wrap64 (rd l0 2))), .int .i64 (Go.bits .or .i64 (wrap64 ((wrap64 (rd l0 3)) * 256)) (wrap64 (rd l0 4))), .int .i64 (wrap64 (rd l0 5)), .slice none 0 0]) ?_ 4 _ rfl; (with_reducible repeat (first | refine k2 ?_ _ | refine k3 ?_ | refine k1 ?_ _)); refine blk_put (cs := #[.int .i64 (wrap64 (rd l0 0)), .int .i64 (Go.bits .or .i64 (wrap64 ((wrap64 (rd l0 1)) * 256)) (wrap64 (rd l0 2))), .int .i64 (Go.bits .or .i64 (wrap64 ((wrap64 (rd l0 3)) * 256)) (wrap64 (rd l0 4))), .int .i64 0, .slice none 0 0]) ?_ 3 _ rfl; (with_reducible repeat (first | refine k2 ?_ _ | refine k3 ?_ | refine k1 ?_ _)); refine blk_put (cs := #[.int .i64 (wrap64 (rd l0 0)), .int .i64 (Go.bits .or .i64 (wrap64 ((wrap64 (rd l0 1)) * 256)) (wrap64 (rd l0 2))), .int .i64 0, .int .i64 0, .slice none 0 0]) ?_ 2 _ rfl; (with_reducible repeat (first | refine k2 ?_ _ | refine k3 ?_ | refine k1 ?_ _)); refine blk_put (cs := #[.int .i64 (wrap64 (rd l0 0)), .int .i64 0, .int .i64 0, .int .i64 0, .slice none 0 0]) ?_ 1 _ rfl; (with_reducible repeat (first | refine k2 ?_ _ | refine k3 ?_ | refine k1 ?_ _)); refine blk_put (cs := #[.int .i64 0, .int .i64 0, .int .i64 0, .int .i64 0, .slice none 0 0]) ?_ 0 _ rfl; (with_reducible repeat (first | refine k2 ?_ _ | refine k3 ?_ | refine k1 ?_ _)); exact BK334.out⟩
                  have n3_ : Aside0 (Below w.heap.size w (((((w34.setCell ⟨gb334, 0, none⟩ (.int .i64 (wrap64 (rd l0 0)))).setCell ⟨gb334, 1, none⟩ (.int .i64 (Go.bits .or .i64 (wrap64 ((wrap64 (rd l0 1)) * 256)) (wrap64 (rd l0 2))))).setCell ⟨gb334, 2, none⟩ (.int .i64 (Go.bits .or .i64 (wrap64 ((wrap64 (rd l0 3)) * 256)) (wrap64 (rd l0 4))))).setCell ⟨gb334, 3, none⟩ (.int .i64 (wrap64 (rd l0 5)))).setCell ⟨gb334, 4, none⟩ (.slice Ao35 t331.length co35))) := ⟨by repeat (first | (with_reducible first | exact HB.out | apply b1 | apply b2 | apply b3 | refine below_set ?_ GE318.out | refine below_set ?_ GE334.out) | exact HB.out)⟩
                  (try clear HO333)
                  (try clear BK318)
                  (try clear BK334)
                  (try clear HB)
                  generalize (((((w34.setCell ⟨gb334, 0, none⟩ (.int .i64 (wrap64 (rd l0 0)))).setCell ⟨gb334, 1, none⟩ (.int .i64 (Go.bits .or .i64 (wrap64 ((wrap64 (rd l0 1)) * 256)) (wrap64 (rd l0 2))))).setCell ⟨gb334, 2, none⟩ (.int .i64 (Go.bits .or .i64 (wrap64 ((wrap64 (rd l0 3)) * 256)) (wrap64 (rd l0 4))))).setCell ⟨gb334, 3, none⟩ (.int .i64 (wrap64 (rd l0 5)))).setCell ⟨gb334, 4, none⟩ (.slice Ao35 t331.length co35)) = w41 at n0_ n1_ n2_ n3_ ⊢
                  have HO333 := n0_
                  have BK318 := n1_
                  have BK334 := n2_
                  have HB := n3_
                  clear n0_ n1_ n2_ n3_
                  have n0_ := Aside0.mk (Kd.R_drew HO333.out)
                  have n1_ := Aside0.mk (blk_drew BK318.out)
                  have n2_ := Aside0.mk (blk_drew BK334.out)
                  have n3_ := Aside0.mk (below_drew1 HB.out)
                  clear HO333
                  clear BK318
                  clear BK334
                  clear HB
                  have HO333 := n0_
                  have BK318 := n1_
                  have BK334 := n2_
                  have HB := n3_
                  clear n0_ n1_ n2_ n3_
                  have p335 : 0 ≤ (6 : Int) := (by omega)
                  have q335 : 6 < (l0.length : Int) := of_decide_eq_true (by first | (with_reducible assumption) | assumption)
                  obtain ⟨ad335, e335, hx335_0⟩ := Kd.at_int HR0.out 6 p335 q335
                  have hw335_0 := hx335_0
                  (try rw [show ((6 : Int)).toNat = 6 from rfl] at hw335_0)
                  (try rw [show 6 * 1 = 6 from rfl] at hw335_0)
                  (try simp only [Nat.reduceMul, Nat.reduceEqDiff, Go.Addr.add, ↓reduceIte] at hw335_0)
                  obtain rfl : ad322 = ad335 := (by injection e335)
                  (try simp only [show (6 : Int).toNat = 6 from rfl, Nat.reduceMul, Nat.reduceEqDiff, Go.Addr.add, ↓reduceIte] at hx335_0)
                  have qi335 : (6 < l0.length) = True := eq_true (by omega)
                  (try rw [show ((6 : Int)).toNat = 6 from rfl] at hx335_0)
                  replace hx335_0 := (HB.out.cell (World.block_lt_of_cell? w _ hx335_0)).trans hx335_0
                  replace p335 := eq_true p335
                  replace q335 := eq_true q335
                  refine start_ (n := 13) (S := fun w' => w'.cell? ⟨gb334, 0, none⟩ = some (.int .i64 (wrap64 (rd l0 0))) ∧ w'.cell? ⟨gb334, 1, none⟩ = some (.int .i64 (Go.bits .or .i64 (wrap64 ((wrap64 (rd l0 1)) * 256)) (wrap64 (rd l0 2)))) ∧ w'.cell? ⟨gb334, 2, none⟩ = some (.int .i64 (Go.bits .or .i64 (wrap64 ((wrap64 (rd l0 3)) * 256)) (wrap64 (rd l0 4)))) ∧ w'.cell? ⟨gb334, 3, none⟩ = some (.int .i64 (wrap64 (rd l0 5))) ∧ w'.cell? ⟨gb334, 4, none⟩ = some (.slice Ao35 t331.length co35) ∧ w'.cell? ⟨ad322.block, ad322.off + 6, none⟩ = some (.int .u8 (rd l0 6))) (ds := []) (bu 13 0) (by kernel_rfl) rfl rfl ⟨(blk_cell BK334.out 0).trans rfl, (blk_cell BK334.out 1).trans rfl, (blk_cell BK334.out 2).trans rfl, (blk_cell BK334.out 3).trans rfl, (blk_cell BK334.out 4).trans rfl, ((HB.out.cell (World.block_lt_of_cell? w _ hw335_0)).trans hw335_0)⟩ (fun hHeld => ?_); refine with_tabW wherryref18_ReadFrame.tab7 wherryref18_ReadFrame.bits7 (fun HT_ HW_ => ?_)
                  generalize w41.drew = w42 at HO333 BK318 BK334 HB hx335_0 hHeld ⊢
                  refine pA 0 66 (bu 13 1) ?_ HT_ rfl rfl (.inl ⟨by rfl, ?_⟩) ?_ ?_ ?_; rotate_left; (focus intro w'; go_simp; with_reducible rfl); rotate_left; (focus simp only [pk]; rfl)
                  refine pA 1 67 (bu 13 2) ?_ HT_ rfl rfl (.inl ⟨by rfl, ?_⟩) ?_ ?_ ?_; rotate_left; (focus intro w'; go_simp; with_reducible rfl); rotate_left; (focus simp only [pk]; rfl)
                  refine pA 4 70 (bm 13 0x13) ?_ HT_ rfl rfl (.inl ⟨by rfl, ?_⟩) ?_ ?_ ?_; rotate_left; (focus intro w'; go_simp; with_reducible rfl); rotate_left; (focus simp only [pk]; rfl)
                  refine tA 2 68 (bm 13 0x17) ?_ HT_ HW_ rfl rfl (.inl ⟨by rfl, ?_⟩) hHeld ?_ ?_ ?_; rotate_left; (focus rintro w' ⟨s0, s1, s2, s3, s4, s5⟩; go_simp; with_reducible rfl); rotate_left; (focus simp only [pk]; rfl)
                  refine pA 3 69 (bu 13 5) ?_ HT_ rfl rfl (.inl ⟨by rfl, ?_⟩) ?_ ?_ ?_; rotate_left; (focus intro w'; go_simp; with_reducible rfl); rotate_left; (focus simp only [pk]; rfl)
                  refine tA 5 71 (bu 13 6) ?_ HT_ HW_ rfl rfl (.inl ⟨by rfl, ?_⟩) hHeld ?_ ?_ ?_; rotate_left; (focus rintro w' ⟨s0, s1, s2, s3, s4, s5⟩; go_simp; with_reducible rfl); rotate_left; (focus simp only [pk]; rfl)
                  refine pA 6 72 (bu 13 7) ?_ HT_ rfl rfl (.inl ⟨by rfl, ?_⟩) ?_ ?_ ?_; rotate_left; (focus intro w'; go_simp; with_reducible rfl); rotate_left; (focus simp only [pk]; rfl)
                  refine pA 7 73 (bu 13 8) ?_ HT_ rfl rfl (.inl ⟨by rfl, ?_⟩) ?_ ?_ ?_; rotate_left; (focus intro w'; go_simp; with_reducible rfl); rotate_left; (focus simp only [pk]; rfl)
                  refine pA 8 74 (bu 13 9) ?_ HT_ rfl rfl (.inl ⟨by rfl, ?_⟩) ?_ ?_ ?_; rotate_left; (focus intro w'; go_simp; with_reducible rfl); rotate_left; (focus simp only [pk]; rfl)
                  refine tA 9 75 (bu 13 10) ?_ HT_ HW_ rfl rfl (.inl ⟨by rfl, ?_⟩) hHeld ?_ ?_ ?_; rotate_left; (focus rintro w' ⟨s0, s1, s2, s3, s4, s5⟩; go_simp; with_reducible rfl); rotate_left; (focus simp only [pk]; rfl)
                  refine one_ (i := 10) (N := some 76) (bu 13 11) rfl rfl (one_of HT_.out (by kernel_rfl)) (by decide) (fun K hK => ?_)
                  refine goes_ Try.func16 (by kernel_rfl) rfl #[.agg #[.int .i64 (wrap64 (rd l0 0)), .int .i64 (Go.bits .or .i64 (wrap64 ((wrap64 (rd l0 1)) * 256)) (wrap64 (rd l0 2))), .int .i64 (Go.bits .or .i64 (wrap64 ((wrap64 (rd l0 3)) * 256)) (wrap64 (rd l0 4))), .int .i64 (wrap64 (rd l0 5)), .slice Ao35 t331.length co35]] (by rfl) rfl rfl (by (try simp only [List.map_toArray, List.map_cons, List.map_nil]); first | done | rfl | (simp only [List.length_drop, List.length_take]; rfl) | (go_simp; done) | (go_simp; rfl)) ?_
                  with_reducible refine (wherryref18_Frame.calls k (wrap64 (rd l0 0)) (Go.bits .or .i64 (wrap64 ((wrap64 (rd l0 1)) * 256)) (wrap64 (rd l0 2))) (Go.bits .or .i64 (wrap64 ((wrap64 (rd l0 3)) * 256)) (wrap64 (rd l0 4))) (wrap64 (rd l0 5)) _ _ t331 true _ ?side1 ?side2 A24.out).mono ?_
                  (case side1 => first | with_reducible exact (Kd.R_reads' HO333.out).2.2 | exact sC ((Kd.R_reads' HO333.out).2.2))
                  (case side2 => exact (Kd.R_reads' HO333.out).2.1)
                  rintro e w43 ⟨rfl, hb⟩
                  refine ⟨_, rfl, ?_⟩
                  have n0_ := Aside0.mk (bR HO333.out hb)
                  have n1_ := Aside0.mk (bK BK318.out hb)
                  have n2_ := Aside0.mk (bK BK334.out hb)
                  have n3_ := Aside0.mk (below_step (by repeat (first | (with_reducible first | exact HB.out | apply b1 | apply b2 | apply b3 | refine below_set ?_ GE318.out | refine below_set ?_ GE334.out) | exact HB.out)) hb)
                  clear HO333
                  clear BK318
                  clear BK334
                  clear HB
                  have HO333 := n0_
                  have BK318 := n1_
                  have BK334 := n2_
                  have HB := n3_
                  clear n0_ n1_ n2_ n3_
                  (try clear hb)
                  (try clear hb2)
                  (try clear hk)
                  (try clear hi)
                  refine hK.out _ _ ⟨(blk_cell BK334.out 0).trans rfl, (blk_cell BK334.out 1).trans rfl, (blk_cell BK334.out 2).trans rfl, (blk_cell BK334.out 3).trans rfl, (blk_cell BK334.out 4).trans rfl, ((HB.out.cell (World.block_lt_of_cell? w _ hw335_0)).trans hw335_0)⟩ (fun hHeld => ?_)
                  clear hK K
                  refine norm_ (a' := ?_) ?_ ?_
                  rotate_left
                  ·show Act.put _ (some 76) _ = _
                   simp only [Act.put, List.setIfInBounds_toArray, List.set_cons_zero, List.set_cons_succ, i64_w, i32_w]
                   rfl
                  refine pA 11 77 (bu 13 12) ?_ HT_ rfl rfl (.inl ⟨by rfl, ?_⟩) ?_ ?_ ?_; rotate_left; (focus intro w'; go_simp; with_reducible rfl); rotate_left; (focus simp only [pk]; rfl)
                  refine pA 12 78 (bu 13 13) ?_ HT_ rfl rfl (.inl ⟨by rfl, ?_⟩) ?_ ?_ ?_; rotate_left; (focus intro w'; go_simp; with_reducible rfl); rotate_left; (focus simp only [pk]; rfl)
                  refine done_ (done_of HT_.out (by kernel_rfl)) ?_
                  have hnb44 := NB334_318.out
                  have hnc44 := NB318_334.out
                  have hcz45_0 : w43.cell? ⟨gb334, 0, none⟩ = some (.int .i64 (wrap64 (rd l0 0))) := (blk_cell BK334.out 0).trans rfl
                  have hcz45_1 : w43.cell? ⟨gb334, 1, none⟩ = some (.int .i64 (Go.bits .or .i64 (wrap64 ((wrap64 (rd l0 1)) * 256)) (wrap64 (rd l0 2)))) := (blk_cell BK334.out 1).trans rfl
                  have hcz45_2 : w43.cell? ⟨gb334, 2, none⟩ = some (.int .i64 (Go.bits .or .i64 (wrap64 ((wrap64 (rd l0 3)) * 256)) (wrap64 (rd l0 4)))) := (blk_cell BK334.out 2).trans rfl
                  have hcz45_3 : w43.cell? ⟨gb334, 3, none⟩ = some (.int .i64 (wrap64 (rd l0 5))) := (blk_cell BK334.out 3).trans rfl
                  have hcz45_4 : w43.cell? ⟨gb334, 4, none⟩ = some (.slice Ao35 t331.length co35) := (blk_cell BK334.out 4).trans rfl
                  have hfz45_0 := blk_frozen BK334.out 0
                  have hfz45_1 := blk_frozen BK334.out 1
                  have hfz45_2 := blk_frozen BK334.out 2
                  have hfz45_3 := blk_frozen BK334.out 3
                  have hfz45_4 := blk_frozen BK334.out 4
                  have hcz46_0 : w43.cell? ⟨gb318, 0, none⟩ = some (.int .i64 0) := (blk_cell BK318.out 0).trans rfl
                  have hcz46_1 : w43.cell? ⟨gb318, 1, none⟩ = some (.int .i64 0) := (blk_cell BK318.out 1).trans rfl
                  have hcz46_2 : w43.cell? ⟨gb318, 2, none⟩ = some (.int .i64 0) := (blk_cell BK318.out 2).trans rfl
                  have hcz46_3 : w43.cell? ⟨gb318, 3, none⟩ = some (.int .i64 0) := (blk_cell BK318.out 3).trans rfl
                  have hcz46_4 : w43.cell? ⟨gb318, 4, none⟩ = some (.slice none 0 0) := (blk_cell BK318.out 4).trans rfl
                  have hfz46_0 := blk_frozen BK318.out 0
                  have hfz46_1 := blk_frozen BK318.out 1
                  have hfz46_2 := blk_frozen BK318.out 2
                  have hfz46_3 := blk_frozen BK318.out 3
                  have hfz46_4 := blk_frozen BK318.out 4
                  try go_wp2
                  refine bodyPost_ret (results_ct rfl _ _ gb318 24 #[.int .i64 (wrap64 (rd l0 0)), .int .i64 (Go.bits .or .i64 (wrap64 ((wrap64 (rd l0 1)) * 256)) (wrap64 (rd l0 2))), .int .i64 (Go.bits .or .i64 (wrap64 ((wrap64 (rd l0 3)) * 256)) (wrap64 (rd l0 4))), .int .i64 (wrap64 (rd l0 5)), .slice Ao35 t331.length co35] (0, 0) _ rfl (by (with_reducible repeat (first | refine k2 ?_ _ | refine k3 ?_ | refine k1 ?_ _)); refine blk_put (cs := #[.int .i64 (wrap64 (rd l0 0)), .int .i64 (Go.bits .or .i64 (wrap64 ((wrap64 (rd l0 1)) * 256)) (wrap64 (rd l0 2))), .int .i64 (Go.bits .or .i64 (wrap64 ((wrap64 (rd l0 3)) * 256)) (wrap64 (rd l0 4))), .int .i64 (wrap64 (rd l0 5)), .slice none 0 0]) ?_ 4 _ rfl; (with_reducible repeat (first | refine k2 ?_ _ | refine k3 ?_ | refine k1 ?_ _)); refine blk_put (cs := #[.int .i64 (wrap64 (rd l0 0)), .int .i64 (Go.bits .or .i64 (wrap64 ((wrap64 (rd l0 1)) * 256)) (wrap64 (rd l0 2))), .int .i64 (Go.bits .or .i64 (wrap64 ((wrap64 (rd l0 3)) * 256)) (wrap64 (rd l0 4))), .int .i64 0, .slice none 0 0]) ?_ 3 _ rfl; (with_reducible repeat (first | refine k2 ?_ _ | refine k3 ?_ | refine k1 ?_ _)); refine blk_put (cs := #[.int .i64 (wrap64 (rd l0 0)), .int .i64 (Go.bits .or .i64 (wrap64 ((wrap64 (rd l0 1)) * 256)) (wrap64 (rd l0 2))), .int .i64 0, .int .i64 0, .slice none 0 0]) ?_ 2 _ rfl; (with_reducible repeat (first | refine k2 ?_ _ | refine k3 ?_ | refine k1 ?_ _)); refine blk_put (cs := #[.int .i64 (wrap64 (rd l0 0)), .int .i64 0, .int .i64 0, .int .i64 0, .slice none 0 0]) ?_ 1 _ rfl; (with_reducible repeat (first | refine k2 ?_ _ | refine k3 ?_ | refine k1 ?_ _)); refine blk_put (cs := #[.int .i64 0, .int .i64 0, .int .i64 0, .int .i64 0, .slice none 0 0]) ?_ 0 _ rfl; (with_reducible repeat (first | refine k2 ?_ _ | refine k3 ?_ | refine k1 ?_ _)); exact BK318.out) Try.underlying24 rfl (by kernel_rfl)) rfl ?_
                  exact ⟨_, by first | rfl | (simp [errW_none, errW_some] <;> rfl) | (simp only [← hji4, ← hji9]; first | rfl | (simp [errW_none, errW_some] <;> rfl)) | (simp [*, errW_none, errW_some] <;> rfl), by (with_reducible repeat (first | apply R1 | apply R2 | apply R3)); exact Kd.R_mono (Kd.R_far (p := ⟨gb318, 4, none⟩) (Kd.R_far (p := ⟨gb318, 3, none⟩) (Kd.R_far (p := ⟨gb318, 2, none⟩) (Kd.R_far (p := ⟨gb318, 1, none⟩) (Kd.R_far (p := ⟨gb318, 0, none⟩) (Kd.R_types HO333.out BK318.out (by decide)) (fun _ hk => hk.2) (.int .i64 (wrap64 (rd l0 0)))) (fun _ hk => hk.2) (.int .i64 (Go.bits .or .i64 (wrap64 ((wrap64 (rd l0 1)) * 256)) (wrap64 (rd l0 2))))) (fun _ hk => hk.2) (.int .i64 (Go.bits .or .i64 (wrap64 ((wrap64 (rd l0 3)) * 256)) (wrap64 (rd l0 4))))) (fun _ hk => hk.2) (.int .i64 (wrap64 (rd l0 5)))) (fun _ hk => hk.2) (.slice Ao35 t331.length co35)) (fun _ hk => trivial), by repeat (first | (with_reducible first | exact HB.out | apply b1 | apply b2 | apply b3 | refine below_set ?_ GE318.out | refine below_set ?_ GE334.out) | exact HB.out)⟩
                 ·replace c25 := Bool.eq_false_iff.mpr c25
                  subst c25
                  have H1 : (some (0, 0, 0, 0, ([] : List Int), 3)) = some (r1, r2, r3, r4, r5, r6) := by rw [if_neg (show ¬ (false = true) by decide)] at H; exact H
                  clear H
                  have H := H1
                  clear H1
                  simp only [Option.some.injEq, Prod.mk.injEq] at H
                  obtain ⟨rfl, rfl, rfl, rfl, rfl, rfl⟩ := H
                  go_enter Try.func19, Try.ntmps19
                  try go_wp2_with (first | ((with_reducible refine gate_dst (N := 2) rfl ?_); refine box_event ?hg (N := 2) ?hd (cs := #[.int .i64 0, .int .i64 0, .int .i64 0, .int .i64 0, .slice none 0 0]) (t := 24) ?hr ?_; (case hd => rfl); (case hg => rfl); (case hr => first | (go_simp; done) | (go_simp; rfl)); intro gb318 hg w47 hbox hb; have n0_ := Aside0.mk (below_step (by first | with_reducible exact HB.out | exact sB HB.out) hb); have n1_ := Aside0.mk (hbox); have n2_ := Aside0.mk ((by rw [hg]; exact (below_size (by first | with_reducible exact HB.out | exact sB HB.out)) : w.heap.size ≤ gb318)); have n3_ := Aside0.mk ((by rw [hg]; exact (below_size (by first | with_reducible exact HB.out | exact sB HB.out)) : w.heap.size ≤ gb318)); clear HB; have HB := n0_; have BK318 := n1_; have GW318 := n2_; have GE318 := n3_; clear n0_ n1_ n2_ n3_; clear hb hbox hg) | ((with_reducible refine gate_callee (f := 28) rfl ?_); refine goesL_ (some 8) rfl rfl Try.func28 (by kernel_rfl) rfl #[.int .i64 (l0.length : Int), .int .i64 9, .int .i64 57] rfl (by (try simp only [List.map_toArray, List.map_cons, List.map_nil]); first | done | rfl | (simp only [List.length_drop, List.length_take]; rfl) | (go_simp; done) | (go_simp; rfl)) ?_; (with_reducible refine (wherryref18_in.calls (l0.length : Int) 9 57 true _ A2.out).mono ?_); rintro e w' ⟨rfl, ⟨nd, rfl⟩⟩; refine ⟨_, rfl, ?_⟩; (try (rw [drewN_self w47]; generalize hq_ : World.drewN w47 _ = w47; have n0_ : Aside0 (w47.heap[gb318]? = some (.cells #[.int .i64 0, .int .i64 0, .int .i64 0, .int .i64 0, .slice none 0 0] 24 (0, 0))) := ⟨by rw [← hq_]; exact (by first | with_reducible exact BK318.out | exact sK BK318.out)⟩; have n1_ : Aside0 (Below w.heap.size w w47) := ⟨by rw [← hq_]; exact (by repeat (first | (with_reducible first | exact HB.out | apply b1 | apply b2 | apply b3 | refine below_set ?_ GE318.out) | exact HB.out))⟩; clear BK318 HB hq_; have BK318 := n0_; have HB := n1_; clear n0_ n1_))))
                  have n0_ := Aside0.mk (blk_drew BK318.out)
                  have n1_ := Aside0.mk (below_drew1 HB.out)
                  clear BK318
                  clear HB
                  have BK318 := n0_
                  have HB := n1_
                  clear n0_ n1_
                  obtain ⟨i049, hi049, _, hsz49, _⟩ := info_parts info5
                  obtain ⟨hcut49, hA49, hC49⟩ := print_take_of (P := Try.prog) (Value.int .u8) 0 22 5 .i64 Try.underlying22 hi049 hsz49 A0 c0 l0 (ji4) (of_decide_eq_true (by first | (with_reducible assumption) | assumption)) (of_decide_eq_true (by first | (with_reducible assumption) | assumption)) HC0.out
                  have HR320 := Aside0.mk (Kd.C_of_reads (h1 := fun _ => rfl) (hA49 _ (Kd.reads_of_C HR0.out)))
                  have HC320 := Aside0.mk hC49
                  clear hA49 hC49 hi049 hsz49
                  have p322 : 0 ≤ ((ji4) : Int) := of_decide_eq_true (by first | (with_reducible assumption) | assumption)
                  have q322 : (ji4) < (l0.length : Int) := of_decide_eq_true (by first | (with_reducible assumption) | assumption)
                  obtain ⟨ad322, e322, hx322_0⟩ := Kd.at_int HR0.out (ji4) p322 q322
                  have hw322_0 := hx322_0
                  cases e322
                  replace hx322_0 := (HB.out.cell (World.block_lt_of_cell? w _ hx322_0)).trans hx322_0
                  replace p322 := eq_true p322
                  replace q322 := eq_true q322
                  have p323 : 0 ≤ ((ji9) : Int) := of_decide_eq_true (by first | (with_reducible assumption) | assumption)
                  have q323 : (ji9) < (l0.length : Int) := of_decide_eq_true (by first | (with_reducible assumption) | assumption)
                  obtain ⟨ad323, e323, hx323_0⟩ := Kd.at_int HR0.out (ji9) p323 q323
                  have hw323_0 := hx323_0
                  obtain rfl : ad322 = ad323 := (by injection e323)
                  replace hx323_0 := (HB.out.cell (World.block_lt_of_cell? w _ hx323_0)).trans hx323_0
                  replace p323 := eq_true p323
                  replace q323 := eq_true q323
                  refine start_ (n := 18) (S := fun w' => w'.cell? (ad322.add ((ji4)).toNat) = some (.int .u8 (rd l0 (ji4))) ∧ w'.cell? (ad322.add ((ji9)).toNat) = some (.int .u8 (rd l0 (ji9)))) (ds := []) (bu 18 0) (by kernel_rfl) rfl rfl ⟨((HB.out.cell (World.block_lt_of_cell? w _ hw322_0)).trans hw322_0), ((HB.out.cell (World.block_lt_of_cell? w _ hw323_0)).trans hw323_0)⟩ (fun hHeld => ?_); refine with_tabW wherryref18_ReadFrame.tab4 wherryref18_ReadFrame.bits4 (fun HT_ HW_ => ?_)
                  generalize w47.drew = w48 at BK318 HB HR320 hx322_0 hx323_0 hHeld ⊢
                  refine pA 0 14 (bu 18 1) ?_ HT_ rfl rfl (.inl ⟨by rfl, ?_⟩) ?_ ?_ ?_; rotate_left; (focus intro w'; go_simp; with_reducible rfl); rotate_left; (focus simp only [pk]; rfl)
                  refine pA 1 15 (bu 18 2) ?_ HT_ rfl rfl (.inl ⟨by rfl, ?_⟩) ?_ ?_ ?_; rotate_left; (focus intro w'; go_simp; with_reducible rfl); rotate_left; (focus simp only [pk]; rfl)
                  refine pA 2 16 (bu 18 3) ?_ HT_ rfl rfl (.inl ⟨by rfl, ?_⟩) ?_ ?_ ?_; rotate_left; (focus intro w'; go_simp; with_reducible rfl); rotate_left; (focus simp only [pk]; rfl)
                  refine pA 4 18 (bm 18 0x17) ?_ HT_ rfl rfl (.inl ⟨by rfl, ?_⟩) ?_ ?_ ?_; rotate_left; (focus intro w'; go_simp; with_reducible rfl); rotate_left; (focus simp only [pk]; rfl)
                  refine pA 5 19 (bm 18 0x37) ?_ HT_ rfl rfl (.inl ⟨by rfl, ?_⟩) ?_ ?_ ?_; rotate_left; (focus intro w'; go_simp; with_reducible rfl); rotate_left; (focus simp only [pk]; rfl)
                  refine pA 6 20 (bm 18 0x77) ?_ HT_ rfl rfl (.inl ⟨by rfl, ?_⟩) ?_ ?_ ?_; rotate_left; (focus intro w'; go_simp; with_reducible rfl); rotate_left; (focus simp only [pk]; rfl)
                  refine pA 9 23 (bm 18 0x277) ?_ HT_ rfl rfl (.inl ⟨by rfl, ?_⟩) ?_ ?_ ?_; rotate_left; (focus intro w'; go_simp; with_reducible rfl); rotate_left; (focus simp only [pk]; rfl)
                  refine pA 10 24 (bm 18 0x677) ?_ HT_ rfl rfl (.inl ⟨by rfl, ?_⟩) ?_ ?_ ?_; rotate_left; (focus intro w'; go_simp; with_reducible rfl); rotate_left; (focus simp only [pk]; rfl)
                  refine pA 11 25 (bm 18 0xe77) ?_ HT_ rfl rfl (.inl ⟨by rfl, ?_⟩) ?_ ?_ ?_; rotate_left; (focus intro w'; go_simp; with_reducible rfl); rotate_left; (focus simp only [pk]; rfl)
                  refine pA 12 26 (bm 18 0x1e77) ?_ HT_ rfl rfl (.inl ⟨by rfl, ?_⟩) ?_ ?_ ?_; rotate_left; (focus intro w'; go_simp; with_reducible rfl); rotate_left; (focus simp only [pk]; rfl)
                  refine tA 7 21 (bm 18 0x1ef7) ?_ HT_ HW_ rfl rfl (.inl ⟨by rfl, ?_⟩) hHeld ?_ ?_ ?_; rotate_left; (focus rintro w' ⟨s0, s1⟩; go_simp; with_reducible rfl); rotate_left; (focus simp only [pk]; rfl)
                  refine pA 8 22 (bm 18 0x1ff7) ?_ HT_ rfl rfl (.inl ⟨by rfl, ?_⟩) ?_ ?_ ?_; rotate_left; (focus intro w'; go_simp; with_reducible rfl); rotate_left; (focus simp only [pk]; rfl)
                  refine tA 13 27 (bm 18 0x3ff7) ?_ HT_ HW_ rfl rfl (.inl ⟨by rfl, ?_⟩) hHeld ?_ ?_ ?_; rotate_left; (focus rintro w' ⟨s0, s1⟩; go_simp; with_reducible rfl); rotate_left; (focus simp only [pk]; rfl)
                  refine pA 14 28 (bm 18 0x7ff7) ?_ HT_ rfl rfl (.inl ⟨by rfl, ?_⟩) ?_ ?_ ?_; rotate_left; (focus intro w'; go_simp; with_reducible rfl); rotate_left; (focus simp only [pk]; rfl)
                  refine pA 15 29 (bm 18 0xfff7) ?_ HT_ rfl rfl (.inl ⟨by rfl, ?_⟩) ?_ ?_ ?_; rotate_left; (focus intro w'; go_simp; with_reducible rfl); rotate_left; (focus simp only [pk]; rfl)
                  refine pA 16 30 (bm 18 0x1fff7) ?_ HT_ rfl rfl (.inl ⟨by rfl, ?_⟩) ?_ ?_ ?_; rotate_left; (focus intro w'; go_simp; with_reducible rfl); rotate_left; (focus simp only [pk]; rfl)
                  refine one_ (i := 3) (N := some 17) (bu 18 17) rfl rfl (one_of HT_.out (by kernel_rfl)) (by decide) (fun K hK => ?_)
                  refine goes_ Try.func30 (by kernel_rfl) rfl #[.slice (some ad322) (l0.take ((ji4) : Int).toNat).length c0] (by rfl) rfl rfl (by (try simp only [List.map_toArray, List.map_cons, List.map_nil]); first | done | (rw [show (l0.take ((ji4) : Int).toNat).length = (ji4).toNat from (by rw [List.length_take]; have h_ : ((ji4) : Int) ≤ (l0.length : Int) := of_decide_eq_true (by first | (with_reducible assumption) | assumption); omega)] <;> rfl) | (simp only [hji4]; rfl) | rfl | (simp only [List.length_drop, List.length_take]; rfl) | (go_simp; done) | (go_simp; rfl)) ?_
                  with_reducible refine (wherryref08_Short.calls k _ _ (l0.take ((ji4) : Int).toNat) t321 _ ?side1 ?side2 A7.out).mono ?_
                  (case side1 => first | with_reducible exact (Kd.C_below HR320.out HB.out) | exact sC ((Kd.C_below HR320.out HB.out)))
                  (case side2 => exact HC320.out)
                  rintro e w' ⟨rfl, ⟨nd, rfl⟩⟩
                  refine ⟨_, rfl, ?_⟩
                  refine hK.out _ _ ⟨((HB.out.cell (World.block_lt_of_cell? w _ hw322_0)).trans hw322_0), ((HB.out.cell (World.block_lt_of_cell? w _ hw323_0)).trans hw323_0)⟩ (fun hHeld => ?_)
                  clear hK K
                  refine norm_ (a' := ?_) ?_ ?_
                  rotate_left
                  ·show Act.put _ (some 17) _ = _
                   simp only [Act.put, List.setIfInBounds_toArray, List.set_cons_zero, List.set_cons_succ, i64_w, i32_w]
                   rfl
                  refine pA 17 31 (bu 18 18) ?_ HT_ rfl rfl (.inl ⟨by rfl, ?_⟩) ?_ ?_ ?_; rotate_left; (focus intro w'; go_simp; with_reducible rfl); rotate_left; (focus simp only [pk]; rfl)
                  refine done_ (done_of HT_.out (by kernel_rfl)) ?_
                  try go_wp2
                  (try (rw [drewN_self w48]; generalize hq_ : World.drewN w48 _ = w48; have n0_ : Aside0 (w48.heap[gb318]? = some (.cells #[.int .i64 0, .int .i64 0, .int .i64 0, .int .i64 0, .slice none 0 0] 24 (0, 0))) := ⟨by rw [← hq_]; exact (by first | with_reducible exact BK318.out | exact sK BK318.out)⟩; have n1_ : Aside0 (Below w.heap.size w w48) := ⟨by rw [← hq_]; exact (by repeat (first | (with_reducible first | exact HB.out | apply b1 | apply b2 | apply b3 | refine below_set ?_ GE318.out) | exact HB.out))⟩; clear BK318 HB hq_; have BK318 := n0_; have HB := n1_; clear n0_ n1_))
                  have n0_ := Aside0.mk (blk_drew BK318.out)
                  have n1_ := Aside0.mk (below_drew1 HB.out)
                  clear BK318
                  clear HB
                  have BK318 := n0_
                  have HB := n1_
                  clear n0_ n1_
                  have p324 : 0 ≤ (0 : Int) := (by omega)
                  have q324 : 0 < (l0.length : Int) := of_decide_eq_true (by first | (with_reducible assumption) | assumption)
                  obtain ⟨ad324, e324, hx324_0⟩ := Kd.at_int HR0.out 0 p324 q324
                  have hw324_0 := hx324_0
                  (try rw [show ((0 : Int)).toNat = 0 from rfl] at hw324_0)
                  (try rw [show 0 * 1 = 0 from rfl] at hw324_0)
                  (try rw [Addr.add_zero'] at hw324_0)
                  obtain rfl : ad322 = ad324 := (by injection e324)
                  have qi324 : (0 < l0.length) = True := eq_true (by omega)
                  (try rw [show ((0 : Int)).toNat = 0 from rfl] at hx324_0)
                  (try rw [Addr.add_zero'] at hx324_0)
                  replace hx324_0 := (HB.out.cell (World.block_lt_of_cell? w _ hx324_0)).trans hx324_0
                  replace p324 := eq_true p324
                  replace q324 := eq_true q324
                  have p325 : 0 ≤ (1 : Int) := (by omega)
                  have q325 : 1 < (l0.length : Int) := of_decide_eq_true (by first | (with_reducible assumption) | assumption)
                  obtain ⟨ad325, e325, hx325_0⟩ := Kd.at_int HR0.out 1 p325 q325
                  have hw325_0 := hx325_0
                  (try rw [show ((1 : Int)).toNat = 1 from rfl] at hw325_0)
                  (try rw [show 1 * 1 = 1 from rfl] at hw325_0)
                  (try simp only [Nat.reduceMul, Nat.reduceEqDiff, Go.Addr.add, ↓reduceIte] at hw325_0)
                  obtain rfl : ad322 = ad325 := (by injection e325)
                  (try simp only [show (1 : Int).toNat = 1 from rfl, Nat.reduceMul, Nat.reduceEqDiff, Go.Addr.add, ↓reduceIte] at hx325_0)
                  have qi325 : (1 < l0.length) = True := eq_true (by omega)
                  (try rw [show ((1 : Int)).toNat = 1 from rfl] at hx325_0)
                  replace hx325_0 := (HB.out.cell (World.block_lt_of_cell? w _ hx325_0)).trans hx325_0
                  replace p325 := eq_true p325
                  replace q325 := eq_true q325
                  have p326 : 0 ≤ (2 : Int) := (by omega)
                  have q326 : 2 < (l0.length : Int) := of_decide_eq_true (by first | (with_reducible assumption) | assumption)
                  obtain ⟨ad326, e326, hx326_0⟩ := Kd.at_int HR0.out 2 p326 q326
                  have hw326_0 := hx326_0
                  (try rw [show ((2 : Int)).toNat = 2 from rfl] at hw326_0)
                  (try rw [show 2 * 1 = 2 from rfl] at hw326_0)
                  (try simp only [Nat.reduceMul, Nat.reduceEqDiff, Go.Addr.add, ↓reduceIte] at hw326_0)
                  obtain rfl : ad322 = ad326 := (by injection e326)
                  (try simp only [show (2 : Int).toNat = 2 from rfl, Nat.reduceMul, Nat.reduceEqDiff, Go.Addr.add, ↓reduceIte] at hx326_0)
                  have qi326 : (2 < l0.length) = True := eq_true (by omega)
                  (try rw [show ((2 : Int)).toNat = 2 from rfl] at hx326_0)
                  replace hx326_0 := (HB.out.cell (World.block_lt_of_cell? w _ hx326_0)).trans hx326_0
                  replace p326 := eq_true p326
                  replace q326 := eq_true q326
                  have p327 : 0 ≤ (3 : Int) := (by omega)
                  have q327 : 3 < (l0.length : Int) := of_decide_eq_true (by first | (with_reducible assumption) | assumption)
                  obtain ⟨ad327, e327, hx327_0⟩ := Kd.at_int HR0.out 3 p327 q327
                  have hw327_0 := hx327_0
                  (try rw [show ((3 : Int)).toNat = 3 from rfl] at hw327_0)
                  (try rw [show 3 * 1 = 3 from rfl] at hw327_0)
                  (try simp only [Nat.reduceMul, Nat.reduceEqDiff, Go.Addr.add, ↓reduceIte] at hw327_0)
                  obtain rfl : ad322 = ad327 := (by injection e327)
                  (try simp only [show (3 : Int).toNat = 3 from rfl, Nat.reduceMul, Nat.reduceEqDiff, Go.Addr.add, ↓reduceIte] at hx327_0)
                  have qi327 : (3 < l0.length) = True := eq_true (by omega)
                  (try rw [show ((3 : Int)).toNat = 3 from rfl] at hx327_0)
                  replace hx327_0 := (HB.out.cell (World.block_lt_of_cell? w _ hx327_0)).trans hx327_0
                  replace p327 := eq_true p327
                  replace q327 := eq_true q327
                  have p328 : 0 ≤ (4 : Int) := (by omega)
                  have q328 : 4 < (l0.length : Int) := of_decide_eq_true (by first | (with_reducible assumption) | assumption)
                  obtain ⟨ad328, e328, hx328_0⟩ := Kd.at_int HR0.out 4 p328 q328
                  have hw328_0 := hx328_0
                  (try rw [show ((4 : Int)).toNat = 4 from rfl] at hw328_0)
                  (try rw [show 4 * 1 = 4 from rfl] at hw328_0)
                  (try simp only [Nat.reduceMul, Nat.reduceEqDiff, Go.Addr.add, ↓reduceIte] at hw328_0)
                  obtain rfl : ad322 = ad328 := (by injection e328)
                  (try simp only [show (4 : Int).toNat = 4 from rfl, Nat.reduceMul, Nat.reduceEqDiff, Go.Addr.add, ↓reduceIte] at hx328_0)
                  have qi328 : (4 < l0.length) = True := eq_true (by omega)
                  (try rw [show ((4 : Int)).toNat = 4 from rfl] at hx328_0)
                  replace hx328_0 := (HB.out.cell (World.block_lt_of_cell? w _ hx328_0)).trans hx328_0
                  replace p328 := eq_true p328
                  replace q328 := eq_true q328
                  have p329 : 0 ≤ (5 : Int) := (by omega)
                  have q329 : 5 < (l0.length : Int) := of_decide_eq_true (by first | (with_reducible assumption) | assumption)
                  obtain ⟨ad329, e329, hx329_0⟩ := Kd.at_int HR0.out 5 p329 q329
                  have hw329_0 := hx329_0
                  (try rw [show ((5 : Int)).toNat = 5 from rfl] at hw329_0)
                  (try rw [show 5 * 1 = 5 from rfl] at hw329_0)
                  (try simp only [Nat.reduceMul, Nat.reduceEqDiff, Go.Addr.add, ↓reduceIte] at hw329_0)
                  obtain rfl : ad322 = ad329 := (by injection e329)
                  (try simp only [show (5 : Int).toNat = 5 from rfl, Nat.reduceMul, Nat.reduceEqDiff, Go.Addr.add, ↓reduceIte] at hx329_0)
                  have qi329 : (5 < l0.length) = True := eq_true (by omega)
                  (try rw [show ((5 : Int)).toNat = 5 from rfl] at hx329_0)
                  replace hx329_0 := (HB.out.cell (World.block_lt_of_cell? w _ hx329_0)).trans hx329_0
                  replace p329 := eq_true p329
                  replace q329 := eq_true q329
                  obtain ⟨i051, hi051, _, hsz51, _⟩ := info_parts info5
                  obtain ⟨A51, hcut51, hA51, hC51⟩ := print_mid_of (P := Try.prog) (Value.int .u8) 0 22 5 .i64 .i64 Try.underlying22 hi051 hsz51 (some ad322) c0 l0 7 (ji4) (by omega) (by first | omega | exact of_decide_eq_true (by first | (with_reducible assumption) | assumption)) (of_decide_eq_true (by first | (with_reducible assumption) | assumption)) HC0.out
                  have HR330 := Aside0.mk (Kd.C_of_reads (h1 := fun _ => rfl) (hA51 _ (Kd.reads_of_C HR0.out)))
                  have HC330 := Aside0.mk hC51
                  clear hA51 hC51 hi051 hsz51
                  refine start_ (n := 35) (S := fun w' => w'.cell? ad322 = some (.int .u8 (rd l0 0)) ∧ w'.cell? ⟨ad322.block, ad322.off + 1, none⟩ = some (.int .u8 (rd l0 1)) ∧ w'.cell? ⟨ad322.block, ad322.off + 2, none⟩ = some (.int .u8 (rd l0 2)) ∧ w'.cell? ⟨ad322.block, ad322.off + 3, none⟩ = some (.int .u8 (rd l0 3)) ∧ w'.cell? ⟨ad322.block, ad322.off + 4, none⟩ = some (.int .u8 (rd l0 4)) ∧ w'.cell? ⟨ad322.block, ad322.off + 5, none⟩ = some (.int .u8 (rd l0 5))) (ds := []) (bu 35 0) (by kernel_rfl) rfl rfl ⟨((HB.out.cell (World.block_lt_of_cell? w _ hw324_0)).trans hw324_0), ((HB.out.cell (World.block_lt_of_cell? w _ hw325_0)).trans hw325_0), ((HB.out.cell (World.block_lt_of_cell? w _ hw326_0)).trans hw326_0), ((HB.out.cell (World.block_lt_of_cell? w _ hw327_0)).trans hw327_0), ((HB.out.cell (World.block_lt_of_cell? w _ hw328_0)).trans hw328_0), ((HB.out.cell (World.block_lt_of_cell? w _ hw329_0)).trans hw329_0)⟩ (fun hHeld => ?_); refine with_tabW wherryref18_ReadFrame.tab6 wherryref18_ReadFrame.bits6 (fun HT_ HW_ => ?_)
                  generalize w48.drew = w50 at BK318 HB HR330 hx324_0 hx325_0 hx326_0 hx327_0 hx328_0 hx329_0 hHeld ⊢
                  refine pA 0 33 (bu 35 1) ?_ HT_ rfl rfl (.inl ⟨by rfl, ?_⟩) ?_ ?_ ?_; rotate_left; (focus intro w'; go_simp; with_reducible rfl); rotate_left; (focus simp only [pk]; rfl)
                  refine pA 1 34 (bu 35 2) ?_ HT_ rfl rfl (.inl ⟨by rfl, ?_⟩) ?_ ?_ ?_; rotate_left; (focus intro w'; go_simp; with_reducible rfl); rotate_left; (focus simp only [pk]; rfl)
                  refine pA 4 37 (bm 35 0x13) ?_ HT_ rfl rfl (.inl ⟨by rfl, ?_⟩) ?_ ?_ ?_; rotate_left; (focus intro w'; go_simp; with_reducible rfl); rotate_left; (focus simp only [pk]; rfl)
                  refine pA 5 38 (bm 35 0x33) ?_ HT_ rfl rfl (.inl ⟨by rfl, ?_⟩) ?_ ?_ ?_; rotate_left; (focus intro w'; go_simp; with_reducible rfl); rotate_left; (focus simp only [pk]; rfl)
                  refine pA 9 42 (bm 35 0x233) ?_ HT_ rfl rfl (.inl ⟨by rfl, ?_⟩) ?_ ?_ ?_; rotate_left; (focus intro w'; go_simp; with_reducible rfl); rotate_left; (focus simp only [pk]; rfl)
                  refine pA 10 43 (bm 35 0x633) ?_ HT_ rfl rfl (.inl ⟨by rfl, ?_⟩) ?_ ?_ ?_; rotate_left; (focus intro w'; go_simp; with_reducible rfl); rotate_left; (focus simp only [pk]; rfl)
                  refine pA 14 47 (bm 35 0x4633) ?_ HT_ rfl rfl (.inl ⟨by rfl, ?_⟩) ?_ ?_ ?_; rotate_left; (focus intro w'; go_simp; with_reducible rfl); rotate_left; (focus simp only [pk]; rfl)
                  refine pA 15 48 (bm 35 0xc633) ?_ HT_ rfl rfl (.inl ⟨by rfl, ?_⟩) ?_ ?_ ?_; rotate_left; (focus intro w'; go_simp; with_reducible rfl); rotate_left; (focus simp only [pk]; rfl)
                  refine pA 19 52 (bm 35 0x8c633) ?_ HT_ rfl rfl (.inl ⟨by rfl, ?_⟩) ?_ ?_ ?_; rotate_left; (focus intro w'; go_simp; with_reducible rfl); rotate_left; (focus simp only [pk]; rfl)
                  refine pA 20 53 (bm 35 0x18c633) ?_ HT_ rfl rfl (.inl ⟨by rfl, ?_⟩) ?_ ?_ ?_; rotate_left; (focus intro w'; go_simp; with_reducible rfl); rotate_left; (focus simp only [pk]; rfl)
                  refine pA 24 57 (bm 35 0x118c633) ?_ HT_ rfl rfl (.inl ⟨by rfl, ?_⟩) ?_ ?_ ?_; rotate_left; (focus intro w'; go_simp; with_reducible rfl); rotate_left; (focus simp only [pk]; rfl)
                  refine pA 25 58 (bm 35 0x318c633) ?_ HT_ rfl rfl (.inl ⟨by rfl, ?_⟩) ?_ ?_ ?_; rotate_left; (focus intro w'; go_simp; with_reducible rfl); rotate_left; (focus simp only [pk]; rfl)
                  refine pA 28 61 (bm 35 0x1318c633) ?_ HT_ rfl rfl (.inl ⟨by rfl, ?_⟩) ?_ ?_ ?_; rotate_left; (focus intro w'; go_simp; with_reducible rfl); rotate_left; (focus simp only [pk]; rfl)
                  refine pA 29 62 (bm 35 0x3318c633) ?_ HT_ rfl rfl (.inl ⟨by rfl, ?_⟩) ?_ ?_ ?_; rotate_left; (focus intro w'; go_simp; with_reducible rfl); rotate_left; (focus simp only [pk]; rfl)
                  refine pA 30 63 (bm 35 0x7318c633) ?_ HT_ rfl rfl (.inl ⟨by rfl, ?_⟩) ?_ ?_ ?_; rotate_left; (focus intro w'; go_simp; with_reducible rfl); rotate_left; (focus simp only [pk]; rfl)
                  refine tA 2 35 (bm 35 0x7318c637) ?_ HT_ HW_ rfl rfl (.inl ⟨by rfl, ?_⟩) hHeld ?_ ?_ ?_; rotate_left; (focus rintro w' ⟨s0, s1, s2, s3, s4, s5⟩; go_simp; with_reducible rfl); rotate_left; (focus simp only [pk]; rfl)
                  refine pA 3 36 (bm 35 0x7318c63f) ?_ HT_ rfl rfl (.inl ⟨by rfl, ?_⟩) ?_ ?_ ?_; rotate_left; (focus intro w'; go_simp; with_reducible rfl); rotate_left; (focus simp only [pk]; rfl)
                  refine tA 6 39 (bm 35 0x7318c67f) ?_ HT_ HW_ rfl rfl (.inl ⟨by rfl, ?_⟩) hHeld ?_ ?_ ?_; rotate_left; (focus rintro w' ⟨s0, s1, s2, s3, s4, s5⟩; go_simp; with_reducible rfl); rotate_left; (focus simp only [pk]; rfl)
                  refine pA 7 40 (bm 35 0x7318c6ff) ?_ HT_ rfl rfl (.inl ⟨by rfl, ?_⟩) ?_ ?_ ?_; rotate_left; (focus intro w'; go_simp; with_reducible rfl); rotate_left; (focus simp only [pk]; rfl)
                  refine pA 8 41 (bm 35 0x7318c7ff) ?_ HT_ rfl rfl (.inl ⟨by rfl, ?_⟩) ?_ ?_ ?_; rotate_left; (focus intro w'; go_simp; with_reducible rfl); rotate_left; (focus simp only [pk]; rfl)
                  refine tA 11 44 (bm 35 0x7318cfff) ?_ HT_ HW_ rfl rfl (.inl ⟨by rfl, ?_⟩) hHeld ?_ ?_ ?_; rotate_left; (focus rintro w' ⟨s0, s1, s2, s3, s4, s5⟩; go_simp; with_reducible rfl); rotate_left; (focus simp only [pk]; rfl)
                  refine pA 12 45 (bm 35 0x7318dfff) ?_ HT_ rfl rfl (.inl ⟨by rfl, ?_⟩) ?_ ?_ ?_; rotate_left; (focus intro w'; go_simp; with_reducible rfl); rotate_left; (focus simp only [pk]; rfl)
                  refine pA 13 46 (bm 35 0x7318ffff) ?_ HT_ rfl rfl (.inl ⟨by rfl, ?_⟩) ?_ ?_ ?_; rotate_left; (focus intro w'; go_simp; with_reducible rfl); rotate_left; (focus simp only [pk]; rfl)
                  refine tA 16 49 (bm 35 0x7319ffff) ?_ HT_ HW_ rfl rfl (.inl ⟨by rfl, ?_⟩) hHeld ?_ ?_ ?_; rotate_left; (focus rintro w' ⟨s0, s1, s2, s3, s4, s5⟩; go_simp; with_reducible rfl); rotate_left; (focus simp only [pk]; rfl)
                  refine pA 17 50 (bm 35 0x731bffff) ?_ HT_ rfl rfl (.inl ⟨by rfl, ?_⟩) ?_ ?_ ?_; rotate_left; (focus intro w'; go_simp; with_reducible rfl); rotate_left; (focus simp only [pk]; rfl)
                  refine pA 18 51 (bm 35 0x731fffff) ?_ HT_ rfl rfl (.inl ⟨by rfl, ?_⟩) ?_ ?_ ?_; rotate_left; (focus intro w'; go_simp; with_reducible rfl); rotate_left; (focus simp only [pk]; rfl)
                  refine tA 21 54 (bm 35 0x733fffff) ?_ HT_ HW_ rfl rfl (.inl ⟨by rfl, ?_⟩) hHeld ?_ ?_ ?_; rotate_left; (focus rintro w' ⟨s0, s1, s2, s3, s4, s5⟩; go_simp; with_reducible rfl); rotate_left; (focus simp only [pk]; rfl)
                  refine pA 22 55 (bm 35 0x737fffff) ?_ HT_ rfl rfl (.inl ⟨by rfl, ?_⟩) ?_ ?_ ?_; rotate_left; (focus intro w'; go_simp; with_reducible rfl); rotate_left; (focus simp only [pk]; rfl)
                  refine pA 23 56 (bm 35 0x73ffffff) ?_ HT_ rfl rfl (.inl ⟨by rfl, ?_⟩) ?_ ?_ ?_; rotate_left; (focus intro w'; go_simp; with_reducible rfl); rotate_left; (focus simp only [pk]; rfl)
                  refine tA 26 59 (bm 35 0x77ffffff) ?_ HT_ HW_ rfl rfl (.inl ⟨by rfl, ?_⟩) hHeld ?_ ?_ ?_; rotate_left; (focus rintro w' ⟨s0, s1, s2, s3, s4, s5⟩; go_simp; with_reducible rfl); rotate_left; (focus simp only [pk]; rfl)
                  refine pA 27 60 (bu 35 31) ?_ HT_ rfl rfl (.inl ⟨by rfl, ?_⟩) ?_ ?_ ?_; rotate_left; (focus intro w'; go_simp; with_reducible rfl); rotate_left; (focus simp only [pk]; rfl)
                  refine join_ (σ := Value × Nat) 1 (bu 35 34) (fun s_ => [(64, s_.1), (5, .pointer (some ⟨s_.2, 0, none⟩)), (65, .agg #[.int .i64 (wrap64 (rd l0 0)), .int .i64 (Go.bits .or .i64 (wrap64 ((wrap64 (rd l0 1)) * 256)) (wrap64 (rd l0 2))), .int .i64 (Go.bits .or .i64 (wrap64 ((wrap64 (rd l0 3)) * 256)) (wrap64 (rd l0 4))), .int .i64 (wrap64 (rd l0 5)), s_.1])]) (fun s_ w' => (w'.cell? ad322 = some (.int .u8 (rd l0 0)) ∧ w'.cell? ⟨ad322.block, ad322.off + 1, none⟩ = some (.int .u8 (rd l0 1)) ∧ w'.cell? ⟨ad322.block, ad322.off + 2, none⟩ = some (.int .u8 (rd l0 2)) ∧ w'.cell? ⟨ad322.block, ad322.off + 3, none⟩ = some (.int .u8 (rd l0 3)) ∧ w'.cell? ⟨ad322.block, ad322.off + 4, none⟩ = some (.int .u8 (rd l0 4)) ∧ w'.cell? ⟨ad322.block, ad322.off + 5, none⟩ = some (.int .u8 (rd l0 5))) ∧ (Kd.R (Kd.int .u8) 5 w' w.heap.size (fun _ => True) s_.1 t331) ∧ (w'.heap[gb318]? = some (.cells #[.int .i64 0, .int .i64 0, .int .i64 0, .int .i64 0, .slice none 0 0] 24 (0, 0))) ∧ (w'.heap[s_.2]? = some (.cells #[.int .i64 0, .int .i64 0, .int .i64 0, .int .i64 0, .slice none 0 0] 24 (0, 0))) ∧ (w.heap.size ≤ s_.2) ∧ (w.heap.size ≤ s_.2) ∧ (gb318 ≠ s_.2) ∧ (s_.2 ≠ gb318) ∧ (Below w.heap.size w w')) ?_ ?_
                  rotate_left
                  ·intro hCont
                   refine two_ (i := 31) (j := 33) (Ni := some 64) (Nj := some 5) (bu 35 32) (bm 35 0x27fffffff) rfl rfl rfl rfl (two_of HT_.out (by kernel_rfl)) (by decide) (by decide) (fun K hK => ?_) (fun K hK => ?_)
                   ·skip
                    refine goes_ Try.func15 (by kernel_rfl) rfl #[.slice A51 ((l0.take ((ji4) : Int).toNat).drop 7).length (c0 - 7)] (by rfl) rfl rfl (by (try simp only [List.map_toArray, List.map_cons, List.map_nil]); first | done | (rw [show ((l0.take ((ji4) : Int).toNat).drop 7).length = ((ji4).toNat - 7) from (by rw [List.length_drop, List.length_take]; have h_ : ((ji4) : Int) ≤ (l0.length : Int) := of_decide_eq_true (by first | (with_reducible assumption) | assumption); omega)] <;> rfl) | (simp only [hji4]; rfl) | rfl | (simp only [List.length_drop, List.length_take]; rfl) | (go_simp; done) | (go_simp; rfl)) ?_
                    with_reducible refine (wherrykeep_Twin.calls _ _ ((l0.take ((ji4) : Int).toNat).drop 7) t331 _ ?side1 ?side2 A21.out).mono ?_
                    (case side1 => first | with_reducible exact (Kd.C_below HR330.out HB.out) | exact sC ((Kd.C_below HR330.out HB.out)))
                    (case side2 => exact HC330.out)
                    rintro e w52 ⟨v332, rfl, ho0, hb⟩
                    refine ⟨_, rfl, ?_⟩
                    have n0_ := Aside0.mk (Kd.R_lower ho0 (below_size (by repeat (first | (with_reducible first | exact HB.out | apply b1 | apply b2 | apply b3 | refine below_set ?_ GE318.out) | exact HB.out))))
                    have n1_ := Aside0.mk (bK BK318.out hb)
                    have n2_ := Aside0.mk (below_step (by repeat (first | (with_reducible first | exact HB.out | apply b1 | apply b2 | apply b3 | refine below_set ?_ GE318.out) | exact HB.out)) hb)
                    clear BK318
                    clear HB
                    have HO333 := n0_
                    have BK318 := n1_
                    have HB := n2_
                    clear n0_ n1_ n2_
                    (try clear hb)
                    (try clear hb2)
                    (try clear hk)
                    (try clear hi)
                    (try clear ho0)
                    obtain ⟨Ao53, co53, eo53⟩ := Kd.R_slice HO333.out
                    (first | subst eo53 | (injection eo53 with f1_ f2_ f3_; have f4_ := f1_.symm; have f5_ := f3_.symm; clear f1_ f2_ f3_; subst f4_; subst f5_))
                    refine hK.out _ _ ⟨((HB.out.cell (World.block_lt_of_cell? w _ hw324_0)).trans hw324_0), ((HB.out.cell (World.block_lt_of_cell? w _ hw325_0)).trans hw325_0), ((HB.out.cell (World.block_lt_of_cell? w _ hw326_0)).trans hw326_0), ((HB.out.cell (World.block_lt_of_cell? w _ hw327_0)).trans hw327_0), ((HB.out.cell (World.block_lt_of_cell? w _ hw328_0)).trans hw328_0), ((HB.out.cell (World.block_lt_of_cell? w _ hw329_0)).trans hw329_0)⟩ (fun hHeld => ?_)
                    clear hK K
                    refine norm_ (a' := ?_) ?_ ?_
                    rotate_left
                    ·show Act.put _ (some 64) _ = _
                     simp only [Act.put, List.setIfInBounds_toArray, List.set_cons_zero, List.set_cons_succ, i64_w, i32_w]
                     rfl
                    refine pA 32 65 (bu 35 33) ?_ HT_ rfl rfl (.inl ⟨by rfl, ?_⟩) ?_ ?_ ?_; rotate_left; (focus intro w'; go_simp; with_reducible rfl); rotate_left; (focus simp only [pk]; rfl)
                    refine one_ (i := 33) (N := some 5) (bu 35 34) rfl rfl (one_of HT_.out (by kernel_rfl)) (by decide) (fun K hK => ?_)
                    refine box_step ?hg (N := 5) ?hd (cs := #[.int .i64 0, .int .i64 0, .int .i64 0, .int .i64 0, .slice none 0 0]) (t := 24) ?hr ?_; (case hd => rfl); (case hg => rfl); (case hr => first | (go_simp; done) | (go_simp; rfl))
                    intro gb334 hg w54 hbox hb
                    have n0_ := Aside0.mk (bR HO333.out hb)
                    have n1_ := Aside0.mk (bK BK318.out hb)
                    have n2_ := Aside0.mk (below_step (by repeat (first | (with_reducible first | exact HB.out | apply b1 | apply b2 | apply b3 | refine below_set ?_ GE318.out) | exact HB.out)) hb)
                    have n3_ := Aside0.mk (hbox)
                    have n4_ := Aside0.mk ((by rw [hg]; exact (below_size (by repeat (first | (with_reducible first | exact HB.out | apply b1 | apply b2 | apply b3 | refine below_set ?_ GE318.out) | exact HB.out))) : w.heap.size ≤ gb334))
                    have n5_ := Aside0.mk ((by rw [hg]; exact (below_size (by repeat (first | (with_reducible first | exact HB.out | apply b1 | apply b2 | apply b3 | refine below_set ?_ GE318.out) | exact HB.out))) : w.heap.size ≤ gb334))
                    have n6_ := Aside0.mk ((by rw [hg]; exact Nat.ne_of_lt (blk_lt (g := gb318) (o := .cells #[.int .i64 0, .int .i64 0, .int .i64 0, .int .i64 0, .slice none 0 0] 24 (0, 0)) (by first | with_reducible exact BK318.out | exact sK BK318.out)) : gb318 ≠ gb334))
                    have n7_ := Aside0.mk ((by rw [hg]; exact Nat.ne_of_gt (blk_lt (g := gb318) (o := .cells #[.int .i64 0, .int .i64 0, .int .i64 0, .int .i64 0, .slice none 0 0] 24 (0, 0)) (by first | with_reducible exact BK318.out | exact sK BK318.out)) : gb334 ≠ gb318))
                    clear HO333
                    clear BK318
                    clear HB
                    have HO333 := n0_
                    have BK318 := n1_
                    have HB := n2_
                    have BK334 := n3_
                    have GW334 := n4_
                    have GE334 := n5_
                    have NB318_334 := n6_
                    have NB334_318 := n7_
                    clear n0_ n1_ n2_ n3_ n4_ n5_ n6_ n7_
                    clear hb hbox hg
                    refine hK.out _ _ ⟨((HB.out.cell (World.block_lt_of_cell? w _ hw324_0)).trans hw324_0), ((HB.out.cell (World.block_lt_of_cell? w _ hw325_0)).trans hw325_0), ((HB.out.cell (World.block_lt_of_cell? w _ hw326_0)).trans hw326_0), ((HB.out.cell (World.block_lt_of_cell? w _ hw327_0)).trans hw327_0), ((HB.out.cell (World.block_lt_of_cell? w _ hw328_0)).trans hw328_0), ((HB.out.cell (World.block_lt_of_cell? w _ hw329_0)).trans hw329_0)⟩ (fun hHeld => ?_)
                    clear hK K
                    refine norm_ (a' := ?_) ?_ ?_
                    rotate_left
                    ·show Act.put _ (some 5) _ = _
                     simp only [Act.put, List.setIfInBounds_toArray, List.set_cons_zero, List.set_cons_succ, i64_w, i32_w]
                     rfl
                    exact norm_ (by simp only [putAll, Act.put, List.setIfInBounds_toArray, List.set_cons_zero, List.set_cons_succ]) (hCont (.slice Ao53 t331.length co53, gb334) _ ⟨hHeld, (by first | with_reducible exact HO333.out | exact sR HO333.out), (by first | with_reducible exact BK318.out | exact sK BK318.out), (by first | with_reducible exact BK334.out | exact sK BK334.out), GW334.out, GE334.out, NB318_334.out, NB334_318.out, (by repeat (first | (with_reducible first | exact HB.out | apply b1 | apply b2 | apply b3 | refine below_set ?_ GE318.out | refine below_set ?_ GE334.out) | exact HB.out))⟩)
                   ·skip
                    refine box_step ?hg (N := 5) ?hd (cs := #[.int .i64 0, .int .i64 0, .int .i64 0, .int .i64 0, .slice none 0 0]) (t := 24) ?hr ?_; (case hd => rfl); (case hg => rfl); (case hr => first | (go_simp; done) | (go_simp; rfl))
                    intro gb334 hg w52 hbox hb
                    have n0_ := Aside0.mk (bK BK318.out hb)
                    have n1_ := Aside0.mk (below_step (by repeat (first | (with_reducible first | exact HB.out | apply b1 | apply b2 | apply b3 | refine below_set ?_ GE318.out) | exact HB.out)) hb)
                    have n2_ := Aside0.mk (hbox)
                    have n3_ := Aside0.mk ((by rw [hg]; exact (below_size (by repeat (first | (with_reducible first | exact HB.out | apply b1 | apply b2 | apply b3 | refine below_set ?_ GE318.out) | exact HB.out))) : w.heap.size ≤ gb334))
                    have n4_ := Aside0.mk ((by rw [hg]; exact (below_size (by repeat (first | (with_reducible first | exact HB.out | apply b1 | apply b2 | apply b3 | refine below_set ?_ GE318.out) | exact HB.out))) : w.heap.size ≤ gb334))
                    have n5_ := Aside0.mk ((by rw [hg]; exact Nat.ne_of_lt (blk_lt (g := gb318) (o := .cells #[.int .i64 0, .int .i64 0, .int .i64 0, .int .i64 0, .slice none 0 0] 24 (0, 0)) (by first | with_reducible exact BK318.out | exact sK BK318.out)) : gb318 ≠ gb334))
                    have n6_ := Aside0.mk ((by rw [hg]; exact Nat.ne_of_gt (blk_lt (g := gb318) (o := .cells #[.int .i64 0, .int .i64 0, .int .i64 0, .int .i64 0, .slice none 0 0] 24 (0, 0)) (by first | with_reducible exact BK318.out | exact sK BK318.out)) : gb334 ≠ gb318))
                    clear BK318
                    clear HB
                    have BK318 := n0_
                    have HB := n1_
                    have BK334 := n2_
                    have GW334 := n3_
                    have GE334 := n4_
                    have NB318_334 := n5_
                    have NB334_318 := n6_
                    clear n0_ n1_ n2_ n3_ n4_ n5_ n6_
                    clear hb hbox hg
                    refine hK.out _ _ ⟨((HB.out.cell (World.block_lt_of_cell? w _ hw324_0)).trans hw324_0), ((HB.out.cell (World.block_lt_of_cell? w _ hw325_0)).trans hw325_0), ((HB.out.cell (World.block_lt_of_cell? w _ hw326_0)).trans hw326_0), ((HB.out.cell (World.block_lt_of_cell? w _ hw327_0)).trans hw327_0), ((HB.out.cell (World.block_lt_of_cell? w _ hw328_0)).trans hw328_0), ((HB.out.cell (World.block_lt_of_cell? w _ hw329_0)).trans hw329_0)⟩ (fun hHeld => ?_)
                    clear hK K
                    refine norm_ (a' := ?_) ?_ ?_
                    rotate_left
                    ·show Act.put _ (some 5) _ = _
                     simp only [Act.put, List.setIfInBounds_toArray, List.set_cons_zero, List.set_cons_succ, i64_w, i32_w]
                     rfl
                    refine one_ (i := 31) (N := some 64) (bm 35 0x2ffffffff) rfl rfl (one_of HT_.out (by kernel_rfl)) (by decide) (fun K hK => ?_)
                    refine goes_ Try.func15 (by kernel_rfl) rfl #[.slice A51 ((l0.take ((ji4) : Int).toNat).drop 7).length (c0 - 7)] (by rfl) rfl rfl (by (try simp only [List.map_toArray, List.map_cons, List.map_nil]); first | done | (rw [show ((l0.take ((ji4) : Int).toNat).drop 7).length = ((ji4).toNat - 7) from (by rw [List.length_drop, List.length_take]; have h_ : ((ji4) : Int) ≤ (l0.length : Int) := of_decide_eq_true (by first | (with_reducible assumption) | assumption); omega)] <;> rfl) | (simp only [hji4]; rfl) | rfl | (simp only [List.length_drop, List.length_take]; rfl) | (go_simp; done) | (go_simp; rfl)) ?_
                    with_reducible refine (wherrykeep_Twin.calls _ _ ((l0.take ((ji4) : Int).toNat).drop 7) t331 _ ?side1 ?side2 A21.out).mono ?_
                    (case side1 => first | with_reducible exact (Kd.C_below HR330.out HB.out) | exact sC ((Kd.C_below HR330.out HB.out)))
                    (case side2 => exact HC330.out)
                    rintro e w53 ⟨v332, rfl, ho0, hb⟩
                    refine ⟨_, rfl, ?_⟩
                    have n0_ := Aside0.mk (Kd.R_lower ho0 (below_size (by repeat (first | (with_reducible first | exact HB.out | apply b1 | apply b2 | apply b3 | refine below_set ?_ GE318.out | refine below_set ?_ GE334.out) | exact HB.out))))
                    have n1_ := Aside0.mk (bK BK318.out hb)
                    have n2_ := Aside0.mk (bK BK334.out hb)
                    have n3_ := Aside0.mk (below_step (by repeat (first | (with_reducible first | exact HB.out | apply b1 | apply b2 | apply b3 | refine below_set ?_ GE318.out | refine below_set ?_ GE334.out) | exact HB.out)) hb)
                    clear BK318
                    clear BK334
                    clear HB
                    have HO333 := n0_
                    have BK318 := n1_
                    have BK334 := n2_
                    have HB := n3_
                    clear n0_ n1_ n2_ n3_
                    (try clear hb)
                    (try clear hb2)
                    (try clear hk)
                    (try clear hi)
                    (try clear ho0)
                    obtain ⟨Ao54, co54, eo54⟩ := Kd.R_slice HO333.out
                    (first | subst eo54 | (injection eo54 with f1_ f2_ f3_; have f4_ := f1_.symm; have f5_ := f3_.symm; clear f1_ f2_ f3_; subst f4_; subst f5_))
                    refine hK.out _ _ ⟨((HB.out.cell (World.block_lt_of_cell? w _ hw324_0)).trans hw324_0), ((HB.out.cell (World.block_lt_of_cell? w _ hw325_0)).trans hw325_0), ((HB.out.cell (World.block_lt_of_cell? w _ hw326_0)).trans hw326_0), ((HB.out.cell (World.block_lt_of_cell? w _ hw327_0)).trans hw327_0), ((HB.out.cell (World.block_lt_of_cell? w _ hw328_0)).trans hw328_0), ((HB.out.cell (World.block_lt_of_cell? w _ hw329_0)).trans hw329_0)⟩ (fun hHeld => ?_)
                    clear hK K
                    refine norm_ (a' := ?_) ?_ ?_
                    rotate_left
                    ·show Act.put _ (some 64) _ = _
                     simp only [Act.put, List.setIfInBounds_toArray, List.set_cons_zero, List.set_cons_succ, i64_w, i32_w]
                     rfl
                    refine pA 32 65 (bu 35 34) ?_ HT_ rfl rfl (.inl ⟨by rfl, ?_⟩) ?_ ?_ ?_; rotate_left; (focus intro w'; go_simp; with_reducible rfl); rotate_left; (focus simp only [pk]; rfl)
                    exact norm_ (by simp only [putAll, Act.put, List.setIfInBounds_toArray, List.set_cons_zero, List.set_cons_succ]) (hCont (.slice Ao54 t331.length co54, gb334) _ ⟨hHeld, (by first | with_reducible exact HO333.out | exact sR HO333.out), (by first | with_reducible exact BK318.out | exact sK BK318.out), (by first | with_reducible exact BK334.out | exact sK BK334.out), GW334.out, GE334.out, NB318_334.out, NB334_318.out, (by repeat (first | (with_reducible first | exact HB.out | apply b1 | apply b2 | apply b3 | refine below_set ?_ GE318.out | refine below_set ?_ GE334.out) | exact HB.out))⟩)
                  rintro ⟨v332, gb334⟩ w55 ⟨hS_, h0_, h1_, h2_, h3_, h4_, h5_, h6_, h7_⟩
                  have n0_ : Aside0 (Kd.R (Kd.int .u8) 5 w55 w.heap.size (fun _ => True) v332 t331) := ⟨h0_⟩
                  have n1_ : Aside0 (w55.heap[gb318]? = some (.cells #[.int .i64 0, .int .i64 0, .int .i64 0, .int .i64 0, .slice none 0 0] 24 (0, 0))) := ⟨h1_⟩
                  have n2_ : Aside0 (w55.heap[gb334]? = some (.cells #[.int .i64 0, .int .i64 0, .int .i64 0, .int .i64 0, .slice none 0 0] 24 (0, 0))) := ⟨h2_⟩
                  have n3_ : Aside0 (w.heap.size ≤ gb334) := ⟨h3_⟩
                  have n4_ : Aside0 (w.heap.size ≤ gb334) := ⟨h4_⟩
                  have n5_ : Aside0 (gb318 ≠ gb334) := ⟨h5_⟩
                  have n6_ : Aside0 (gb334 ≠ gb318) := ⟨h6_⟩
                  have n7_ : Aside0 (Below w.heap.size w w55) := ⟨h7_⟩
                  clear BK318
                  clear HB
                  clear h0_ h1_ h2_ h3_ h4_ h5_ h6_ h7_
                  have HO333 := n0_
                  have BK318 := n1_
                  have BK334 := n2_
                  have GW334 := n3_
                  have GE334 := n4_
                  have NB318_334 := n5_
                  have NB334_318 := n6_
                  have HB := n7_
                  clear n0_ n1_ n2_ n3_ n4_ n5_ n6_ n7_
                  have hHeld : w55.cell? ad322 = some (.int .u8 (rd l0 0)) ∧ w55.cell? ⟨ad322.block, ad322.off + 1, none⟩ = some (.int .u8 (rd l0 1)) ∧ w55.cell? ⟨ad322.block, ad322.off + 2, none⟩ = some (.int .u8 (rd l0 2)) ∧ w55.cell? ⟨ad322.block, ad322.off + 3, none⟩ = some (.int .u8 (rd l0 3)) ∧ w55.cell? ⟨ad322.block, ad322.off + 4, none⟩ = some (.int .u8 (rd l0 4)) ∧ w55.cell? ⟨ad322.block, ad322.off + 5, none⟩ = some (.int .u8 (rd l0 5)) := hS_
                  obtain ⟨Ao56, co56, eo56⟩ := Kd.R_slice HO333.out
                  (first | subst eo56 | (injection eo56 with f1_ f2_ f3_; have f4_ := f1_.symm; have f5_ := f3_.symm; clear f1_ f2_ f3_; subst f4_; subst f5_))
                  refine norm_ (a' := ?_) ?_ ?_
                  rotate_left
                  ·simp only [putAll, Act.put, List.setIfInBounds_toArray, List.set_cons_zero, List.set_cons_succ]
                   rfl
                  refine one_ (i := 34) (N := none) (bu 35 35) rfl rfl (one_of HT_.out (by kernel_rfl)) (by decide) (fun K hK => ?_)
                  have hs57 : w55.cell? ⟨gb334, 0, none⟩ = some (.int .i64 0) := (blk_cell BK334.out 0).trans rfl
                  have hfs57 := blk_frozen BK334.out 0
                  have hns57_0 := NB318_334.out
                  have hms57_0 := NB334_318.out
                  have hs58 : w55.cell? ⟨gb334, 1, none⟩ = some (.int .i64 0) := (blk_cell BK334.out 1).trans rfl
                  have hfs58 := blk_frozen BK334.out 1
                  have hns58_0 := NB318_334.out
                  have hms58_0 := NB334_318.out
                  have hs59 : w55.cell? ⟨gb334, 2, none⟩ = some (.int .i64 0) := (blk_cell BK334.out 2).trans rfl
                  have hfs59 := blk_frozen BK334.out 2
                  have hns59_0 := NB318_334.out
                  have hms59_0 := NB334_318.out
                  have hs60 : w55.cell? ⟨gb334, 3, none⟩ = some (.int .i64 0) := (blk_cell BK334.out 3).trans rfl
                  have hfs60 := blk_frozen BK334.out 3
                  have hns60_0 := NB318_334.out
                  have hms60_0 := NB334_318.out
                  have hs61 : w55.cell? ⟨gb334, 4, none⟩ = some (.slice none 0 0) := (blk_cell BK334.out 4).trans rfl
                  have hfs61 := blk_frozen BK334.out 4
                  have hns61_0 := NB318_334.out
                  have hms61_0 := NB334_318.out
                  refine skip_ (w1 := ?_) (by rfl) rfl ?_ ?_
                  rotate_left
                  ·go_simp
                   rfl
                  refine hK.out _ _ ⟨((cell_far (p := ⟨gb334, _, none⟩) (neX hw324_0 GW334.out) _).trans (((cell_far (p := ⟨gb334, _, none⟩) (neX hw324_0 GW334.out) _).trans (((cell_far (p := ⟨gb334, _, none⟩) (neX hw324_0 GW334.out) _).trans (((cell_far (p := ⟨gb334, _, none⟩) (neX hw324_0 GW334.out) _).trans (((cell_far (p := ⟨gb334, _, none⟩) (neX hw324_0 GW334.out) _).trans (hHeld.1)))))))))), ((cell_far (p := ⟨gb334, _, none⟩) (neX hw325_0 GW334.out) _).trans (((cell_far (p := ⟨gb334, _, none⟩) (neX hw325_0 GW334.out) _).trans (((cell_far (p := ⟨gb334, _, none⟩) (neX hw325_0 GW334.out) _).trans (((cell_far (p := ⟨gb334, _, none⟩) (neX hw325_0 GW334.out) _).trans (((cell_far (p := ⟨gb334, _, none⟩) (neX hw325_0 GW334.out) _).trans (hHeld.2.1)))))))))), ((cell_far (p := ⟨gb334, _, none⟩) (neX hw326_0 GW334.out) _).trans (((cell_far (p := ⟨gb334, _, none⟩) (neX hw326_0 GW334.out) _).trans (((cell_far (p := ⟨gb334, _, none⟩) (neX hw326_0 GW334.out) _).trans (((cell_far (p := ⟨gb334, _, none⟩) (neX hw326_0 GW334.out) _).trans (((cell_far (p := ⟨gb334, _, none⟩) (neX hw326_0 GW334.out) _).trans (hHeld.2.2.1)))))))))), ((cell_far (p := ⟨gb334, _, none⟩) (neX hw327_0 GW334.out) _).trans (((cell_far (p := ⟨gb334, _, none⟩) (neX hw327_0 GW334.out) _).trans (((cell_far (p := ⟨gb334, _, none⟩) (neX hw327_0 GW334.out) _).trans (((cell_far (p := ⟨gb334, _, none⟩) (neX hw327_0 GW334.out) _).trans (((cell_far (p := ⟨gb334, _, none⟩) (neX hw327_0 GW334.out) _).trans (hHeld.2.2.2.1)))))))))), ((cell_far (p := ⟨gb334, _, none⟩) (neX hw328_0 GW334.out) _).trans (((cell_far (p := ⟨gb334, _, none⟩) (neX hw328_0 GW334.out) _).trans (((cell_far (p := ⟨gb334, _, none⟩) (neX hw328_0 GW334.out) _).trans (((cell_far (p := ⟨gb334, _, none⟩) (neX hw328_0 GW334.out) _).trans (((cell_far (p := ⟨gb334, _, none⟩) (neX hw328_0 GW334.out) _).trans (hHeld.2.2.2.2.1)))))))))), ((cell_far (p := ⟨gb334, _, none⟩) (neX hw329_0 GW334.out) _).trans (((cell_far (p := ⟨gb334, _, none⟩) (neX hw329_0 GW334.out) _).trans (((cell_far (p := ⟨gb334, _, none⟩) (neX hw329_0 GW334.out) _).trans (((cell_far (p := ⟨gb334, _, none⟩) (neX hw329_0 GW334.out) _).trans (((cell_far (p := ⟨gb334, _, none⟩) (neX hw329_0 GW334.out) _).trans (hHeld.2.2.2.2.2))))))))))⟩ (fun hHeld => ?_)
                  clear hK K
                  refine done_ (done_of HT_.out (by kernel_rfl)) ?_
                  try go_wp2
                  have n0_ : Aside0 (Kd.R (Kd.int .u8) 5 (((((w55.setCell ⟨gb334, 0, none⟩ (.int .i64 (wrap64 (rd l0 0)))).setCell ⟨gb334, 1, none⟩ (.int .i64 (Go.bits .or .i64 (wrap64 ((wrap64 (rd l0 1)) * 256)) (wrap64 (rd l0 2))))).setCell ⟨gb334, 2, none⟩ (.int .i64 (Go.bits .or .i64 (wrap64 ((wrap64 (rd l0 3)) * 256)) (wrap64 (rd l0 4))))).setCell ⟨gb334, 3, none⟩ (.int .i64 (wrap64 (rd l0 5)))).setCell ⟨gb334, 4, none⟩ (.slice Ao56 t331.length co56)) w.heap.size (fun _ => True) (.slice Ao56 t331.length co56) t331) := ⟨by (with_reducible repeat (first | apply R1 | apply R2 | apply R3)); exact Kd.R_mono (Kd.R_far (p := ⟨gb334, 4, none⟩) (Kd.R_far (p := ⟨gb334, 3, none⟩) (Kd.R_far (p := ⟨gb334, 2, none⟩) (Kd.R_far (p := ⟨gb334, 1, none⟩) (Kd.R_far (p := ⟨gb334, 0, none⟩) (Kd.R_types HO333.out BK334.out (by decide)) (fun _ hk => hk.2) (.int .i64 (wrap64 (rd l0 0)))) (fun _ hk => hk.2) (.int .i64 (Go.bits .or .i64 (wrap64 ((wrap64 (rd l0 1)) * 256)) (wrap64 (rd l0 2))))) (fun _ hk => hk.2) (.int .i64 (Go.bits .or .i64 (wrap64 ((wrap64 (rd l0 3)) * 256)) (wrap64 (rd l0 4))))) (fun _ hk => hk.2) (.int .i64 (wrap64 (rd l0 5)))) (fun _ hk => hk.2) (.slice Ao56 t331.length co56)) (fun _ hk => trivial)⟩
                  have n1_ : Aside0 ((((((w55.setCell ⟨gb334, 0, none⟩ (.int .i64 (wrap64 (rd l0 0)))).setCell ⟨gb334, 1, none⟩ (.int .i64 (Go.bits .or .i64 (wrap64 ((wrap64 (rd l0 1)) * 256)) (wrap64 (rd l0 2))))).setCell ⟨gb334, 2, none⟩ (.int .i64 (Go.bits .or .i64 (wrap64 ((wrap64 (rd l0 3)) * 256)) (wrap64 (rd l0 4))))).setCell ⟨gb334, 3, none⟩ (.int .i64 (wrap64 (rd l0 5)))).setCell ⟨gb334, 4, none⟩ (.slice Ao56 t331.length co56)).heap[gb318]? = some (.cells #[.int .i64 0, .int .i64 0, .int .i64 0, .int .i64 0, .slice none 0 0] 24 (0, 0))) := ⟨by (with_reducible repeat (first | refine k2 ?_ _ | refine k3 ?_ | refine k1 ?_ _)); refine blk_far ?_ NB318_334.out _; (with_reducible repeat (first | refine k2 ?_ _ | refine k3 ?_ | refine k1 ?_ _)); refine blk_far ?_ NB318_334.out _; (with_reducible repeat (first | refine k2 ?_ _ | refine k3 ?_ | refine k1 ?_ _)); refine blk_far ?_ NB318_334.out _; (with_reducible repeat (first | refine k2 ?_ _ | refine k3 ?_ | refine k1 ?_ _)); refine blk_far ?_ NB318_334.out _; (with_reducible repeat (first | refine k2 ?_ _ | refine k3 ?_ | refine k1 ?_ _)); refine blk_far ?_ NB318_334.out _; (with_reducible repeat (first | refine k2 ?_ _ | refine k3 ?_ | refine k1 ?_ _)); exact BK318.out⟩
                  have n2_ : Aside0 ((((((w55.setCell ⟨gb334, 0, none⟩ (.int .i64 (wrap64 (rd l0 0)))).setCell ⟨gb334, 1, none⟩ (.int .i64 (Go.bits .or .i64 (wrap64 ((wrap64 (rd l0 1)) * 256)) (wrap64 (rd l0 2))))).setCell ⟨gb334, 2, none⟩ (.int .i64 (Go.bits .or .i64 (wrap64 ((wrap64 (rd l0 3)) * 256)) (wrap64 (rd l0 4))))).setCell ⟨gb334, 3, none⟩ (.int .i64 (wrap64 (rd l0 5)))).setCell ⟨gb334, 4, none⟩ (.slice Ao56 t331.length co56)).heap[gb334]? = some (.cells #[.int .i64 (wrap64 (rd l0 0)), .int .i64 (Go.bits .or .i64 (wrap64 ((wrap64 (rd l0 1)) * 256)) (wrap64 (rd l0 2))), .int .i64 (Go.bits .or .i64 (wrap64 ((wrap64 (rd l0 3)) * 256)) (wrap64 (rd l0 4))), .int .i64 (wrap64 (rd l0 5)), .slice Ao56 t331.length co56] 24 (0, 0))) := ⟨by (with_reducible repeat (first | refine k2 ?_ _ | refine k3 ?_ | refine k1 ?_ _)); refine blk_put (cs := #[.int .i64 (wrap64 (rd l0 0)), .int .i64 (Go.bits .or .i64 (wrap64 ((wrap64 (rd l0 1)) * 256)) (wrap64 (rd l0 2))), .int .i64 (Go.bits .or .i64 (wrap64 ((wrap64 (rd l0 3)) * 256)) (wrap64 (rd l0 4))), .int .i64 (wrap64 (rd l0 5)), .slice none 0 0]) ?_ 4 _ rfl; (with_reducible repeat (first | refine k2 ?_ _ | refine k3 ?_ | refine k1 ?_ _)); refine blk_put (cs := #[.int .i64 (wrap64 (rd l0 0)), .int .i64 (Go.bits .or .i64 (wrap64 ((wrap64 (rd l0 1)) * 256)) (wrap64 (rd l0 2))), .int .i64 (Go.bits .or .i64 (wrap64 ((wrap64 (rd l0 3)) * 256)) (wrap64 (rd l0 4))), .int .i64 0, .slice none 0 0]) ?_ 3 _ rfl; (with_reducible repeat (first | refine k2 ?_ _ | refine k3 ?_ | refine k1 ?_ _)); refine blk_put (cs := #[.int .i64 (wrap64 (rd l0 0)), .int .i64 (Go.bits .or .i64 (wrap64 ((wrap64 (rd l0 1)) * 256)) (wrap64 (rd l0 2))), .int .i64 0, .int .i64 0, .slice none 0 0]) ?_ 2 _ rfl; (with_reducible repeat (first | refine k2 ?_ _ | refine k3 ?_ | refine k1 ?_ _)); refine blk_put (cs := #[.int .i64 (wrap64 (rd l0 0)), .int .i64 0, .int .i64 0, .int .i64 0, .slice none 0 0]) ?_ 1 _ rfl; (with_reducible repeat (first | refine k2 ?_ _ | refine k3 ?_ | refine k1 ?_ _)); refine blk_put (cs := #[.int .i64 0, .int .i64 0, .int .i64 0, .int .i64 0, .slice none 0 0]) ?_ 0 _ rfl; (with_reducible repeat (first | refine k2 ?_ _ | refine k3 ?_ | refine k1 ?_ _)); exact BK334.out⟩
                  have n3_ : Aside0 (Below w.heap.size w (((((w55.setCell ⟨gb334, 0, none⟩ (.int .i64 (wrap64 (rd l0 0)))).setCell ⟨gb334, 1, none⟩ (.int .i64 (Go.bits .or .i64 (wrap64 ((wrap64 (rd l0 1)) * 256)) (wrap64 (rd l0 2))))).setCell ⟨gb334, 2, none⟩ (.int .i64 (Go.bits .or .i64 (wrap64 ((wrap64 (rd l0 3)) * 256)) (wrap64 (rd l0 4))))).setCell ⟨gb334, 3, none⟩ (.int .i64 (wrap64 (rd l0 5)))).setCell ⟨gb334, 4, none⟩ (.slice Ao56 t331.length co56))) := ⟨by repeat (first | (with_reducible first | exact HB.out | apply b1 | apply b2 | apply b3 | refine below_set ?_ GE318.out | refine below_set ?_ GE334.out) | exact HB.out)⟩
                  (try clear HO333)
                  (try clear BK318)
                  (try clear BK334)
                  (try clear HB)
                  generalize (((((w55.setCell ⟨gb334, 0, none⟩ (.int .i64 (wrap64 (rd l0 0)))).setCell ⟨gb334, 1, none⟩ (.int .i64 (Go.bits .or .i64 (wrap64 ((wrap64 (rd l0 1)) * 256)) (wrap64 (rd l0 2))))).setCell ⟨gb334, 2, none⟩ (.int .i64 (Go.bits .or .i64 (wrap64 ((wrap64 (rd l0 3)) * 256)) (wrap64 (rd l0 4))))).setCell ⟨gb334, 3, none⟩ (.int .i64 (wrap64 (rd l0 5)))).setCell ⟨gb334, 4, none⟩ (.slice Ao56 t331.length co56)) = w62 at n0_ n1_ n2_ n3_ ⊢
                  have HO333 := n0_
                  have BK318 := n1_
                  have BK334 := n2_
                  have HB := n3_
                  clear n0_ n1_ n2_ n3_
                  have n0_ := Aside0.mk (Kd.R_drew HO333.out)
                  have n1_ := Aside0.mk (blk_drew BK318.out)
                  have n2_ := Aside0.mk (blk_drew BK334.out)
                  have n3_ := Aside0.mk (below_drew1 HB.out)
                  clear HO333
                  clear BK318
                  clear BK334
                  clear HB
                  have HO333 := n0_
                  have BK318 := n1_
                  have BK334 := n2_
                  have HB := n3_
                  clear n0_ n1_ n2_ n3_
                  have p335 : 0 ≤ (6 : Int) := (by omega)
                  have q335 : 6 < (l0.length : Int) := of_decide_eq_true (by first | (with_reducible assumption) | assumption)
                  obtain ⟨ad335, e335, hx335_0⟩ := Kd.at_int HR0.out 6 p335 q335
                  have hw335_0 := hx335_0
                  (try rw [show ((6 : Int)).toNat = 6 from rfl] at hw335_0)
                  (try rw [show 6 * 1 = 6 from rfl] at hw335_0)
                  (try simp only [Nat.reduceMul, Nat.reduceEqDiff, Go.Addr.add, ↓reduceIte] at hw335_0)
                  obtain rfl : ad322 = ad335 := (by injection e335)
                  (try simp only [show (6 : Int).toNat = 6 from rfl, Nat.reduceMul, Nat.reduceEqDiff, Go.Addr.add, ↓reduceIte] at hx335_0)
                  have qi335 : (6 < l0.length) = True := eq_true (by omega)
                  (try rw [show ((6 : Int)).toNat = 6 from rfl] at hx335_0)
                  replace hx335_0 := (HB.out.cell (World.block_lt_of_cell? w _ hx335_0)).trans hx335_0
                  replace p335 := eq_true p335
                  replace q335 := eq_true q335
                  refine start_ (n := 13) (S := fun w' => w'.cell? ⟨gb334, 0, none⟩ = some (.int .i64 (wrap64 (rd l0 0))) ∧ w'.cell? ⟨gb334, 1, none⟩ = some (.int .i64 (Go.bits .or .i64 (wrap64 ((wrap64 (rd l0 1)) * 256)) (wrap64 (rd l0 2)))) ∧ w'.cell? ⟨gb334, 2, none⟩ = some (.int .i64 (Go.bits .or .i64 (wrap64 ((wrap64 (rd l0 3)) * 256)) (wrap64 (rd l0 4)))) ∧ w'.cell? ⟨gb334, 3, none⟩ = some (.int .i64 (wrap64 (rd l0 5))) ∧ w'.cell? ⟨gb334, 4, none⟩ = some (.slice Ao56 t331.length co56) ∧ w'.cell? ⟨ad322.block, ad322.off + 6, none⟩ = some (.int .u8 (rd l0 6))) (ds := []) (bu 13 0) (by kernel_rfl) rfl rfl ⟨(blk_cell BK334.out 0).trans rfl, (blk_cell BK334.out 1).trans rfl, (blk_cell BK334.out 2).trans rfl, (blk_cell BK334.out 3).trans rfl, (blk_cell BK334.out 4).trans rfl, ((HB.out.cell (World.block_lt_of_cell? w _ hw335_0)).trans hw335_0)⟩ (fun hHeld => ?_); refine with_tabW wherryref18_ReadFrame.tab7 wherryref18_ReadFrame.bits7 (fun HT_ HW_ => ?_)
                  generalize w62.drew = w63 at HO333 BK318 BK334 HB hx335_0 hHeld ⊢
                  refine pA 0 66 (bu 13 1) ?_ HT_ rfl rfl (.inl ⟨by rfl, ?_⟩) ?_ ?_ ?_; rotate_left; (focus intro w'; go_simp; with_reducible rfl); rotate_left; (focus simp only [pk]; rfl)
                  refine pA 1 67 (bu 13 2) ?_ HT_ rfl rfl (.inl ⟨by rfl, ?_⟩) ?_ ?_ ?_; rotate_left; (focus intro w'; go_simp; with_reducible rfl); rotate_left; (focus simp only [pk]; rfl)
                  refine pA 4 70 (bm 13 0x13) ?_ HT_ rfl rfl (.inl ⟨by rfl, ?_⟩) ?_ ?_ ?_; rotate_left; (focus intro w'; go_simp; with_reducible rfl); rotate_left; (focus simp only [pk]; rfl)
                  refine tA 2 68 (bm 13 0x17) ?_ HT_ HW_ rfl rfl (.inl ⟨by rfl, ?_⟩) hHeld ?_ ?_ ?_; rotate_left; (focus rintro w' ⟨s0, s1, s2, s3, s4, s5⟩; go_simp; with_reducible rfl); rotate_left; (focus simp only [pk]; rfl)
                  refine pA 3 69 (bu 13 5) ?_ HT_ rfl rfl (.inl ⟨by rfl, ?_⟩) ?_ ?_ ?_; rotate_left; (focus intro w'; go_simp; with_reducible rfl); rotate_left; (focus simp only [pk]; rfl)
                  refine tA 5 71 (bu 13 6) ?_ HT_ HW_ rfl rfl (.inl ⟨by rfl, ?_⟩) hHeld ?_ ?_ ?_; rotate_left; (focus rintro w' ⟨s0, s1, s2, s3, s4, s5⟩; go_simp; with_reducible rfl); rotate_left; (focus simp only [pk]; rfl)
                  refine pA 6 72 (bu 13 7) ?_ HT_ rfl rfl (.inl ⟨by rfl, ?_⟩) ?_ ?_ ?_; rotate_left; (focus intro w'; go_simp; with_reducible rfl); rotate_left; (focus simp only [pk]; rfl)
                  refine pA 7 73 (bu 13 8) ?_ HT_ rfl rfl (.inl ⟨by rfl, ?_⟩) ?_ ?_ ?_; rotate_left; (focus intro w'; go_simp; with_reducible rfl); rotate_left; (focus simp only [pk]; rfl)
                  refine pA 8 74 (bu 13 9) ?_ HT_ rfl rfl (.inl ⟨by rfl, ?_⟩) ?_ ?_ ?_; rotate_left; (focus intro w'; go_simp; with_reducible rfl); rotate_left; (focus simp only [pk]; rfl)
                  refine tA 9 75 (bu 13 10) ?_ HT_ HW_ rfl rfl (.inl ⟨by rfl, ?_⟩) hHeld ?_ ?_ ?_; rotate_left; (focus rintro w' ⟨s0, s1, s2, s3, s4, s5⟩; go_simp; with_reducible rfl); rotate_left; (focus simp only [pk]; rfl)
                  refine one_ (i := 10) (N := some 76) (bu 13 11) rfl rfl (one_of HT_.out (by kernel_rfl)) (by decide) (fun K hK => ?_)
                  refine goes_ Try.func16 (by kernel_rfl) rfl #[.agg #[.int .i64 (wrap64 (rd l0 0)), .int .i64 (Go.bits .or .i64 (wrap64 ((wrap64 (rd l0 1)) * 256)) (wrap64 (rd l0 2))), .int .i64 (Go.bits .or .i64 (wrap64 ((wrap64 (rd l0 3)) * 256)) (wrap64 (rd l0 4))), .int .i64 (wrap64 (rd l0 5)), .slice Ao56 t331.length co56]] (by rfl) rfl rfl (by (try simp only [List.map_toArray, List.map_cons, List.map_nil]); first | done | rfl | (simp only [List.length_drop, List.length_take]; rfl) | (go_simp; done) | (go_simp; rfl)) ?_
                  with_reducible refine (wherryref18_Frame.calls k (wrap64 (rd l0 0)) (Go.bits .or .i64 (wrap64 ((wrap64 (rd l0 1)) * 256)) (wrap64 (rd l0 2))) (Go.bits .or .i64 (wrap64 ((wrap64 (rd l0 3)) * 256)) (wrap64 (rd l0 4))) (wrap64 (rd l0 5)) _ _ t331 false _ ?side1 ?side2 A24.out).mono ?_
                  (case side1 => first | with_reducible exact (Kd.R_reads' HO333.out).2.2 | exact sC ((Kd.R_reads' HO333.out).2.2))
                  (case side2 => exact (Kd.R_reads' HO333.out).2.1)
                  rintro e w64 ⟨rfl, hb⟩
                  refine ⟨_, rfl, ?_⟩
                  have n0_ := Aside0.mk (bR HO333.out hb)
                  have n1_ := Aside0.mk (bK BK318.out hb)
                  have n2_ := Aside0.mk (bK BK334.out hb)
                  have n3_ := Aside0.mk (below_step (by repeat (first | (with_reducible first | exact HB.out | apply b1 | apply b2 | apply b3 | refine below_set ?_ GE318.out | refine below_set ?_ GE334.out) | exact HB.out)) hb)
                  clear HO333
                  clear BK318
                  clear BK334
                  clear HB
                  have HO333 := n0_
                  have BK318 := n1_
                  have BK334 := n2_
                  have HB := n3_
                  clear n0_ n1_ n2_ n3_
                  (try clear hb)
                  (try clear hb2)
                  (try clear hk)
                  (try clear hi)
                  refine hK.out _ _ ⟨(blk_cell BK334.out 0).trans rfl, (blk_cell BK334.out 1).trans rfl, (blk_cell BK334.out 2).trans rfl, (blk_cell BK334.out 3).trans rfl, (blk_cell BK334.out 4).trans rfl, ((HB.out.cell (World.block_lt_of_cell? w _ hw335_0)).trans hw335_0)⟩ (fun hHeld => ?_)
                  clear hK K
                  refine norm_ (a' := ?_) ?_ ?_
                  rotate_left
                  ·show Act.put _ (some 76) _ = _
                   simp only [Act.put, List.setIfInBounds_toArray, List.set_cons_zero, List.set_cons_succ, i64_w, i32_w]
                   rfl
                  refine pA 11 77 (bu 13 12) ?_ HT_ rfl rfl (.inl ⟨by rfl, ?_⟩) ?_ ?_ ?_; rotate_left; (focus intro w'; go_simp; with_reducible rfl); rotate_left; (focus simp only [pk]; rfl)
                  refine pA 12 78 (bu 13 13) ?_ HT_ rfl rfl (.inl ⟨by rfl, ?_⟩) ?_ ?_ ?_; rotate_left; (focus intro w'; go_simp; with_reducible rfl); rotate_left; (focus simp only [pk]; rfl)
                  refine done_ (done_of HT_.out (by kernel_rfl)) ?_
                  have hnb65 := NB318_334.out
                  have hnc65 := NB334_318.out
                  have hcz66_0 : w64.cell? ⟨gb318, 0, none⟩ = some (.int .i64 0) := (blk_cell BK318.out 0).trans rfl
                  have hcz66_1 : w64.cell? ⟨gb318, 1, none⟩ = some (.int .i64 0) := (blk_cell BK318.out 1).trans rfl
                  have hcz66_2 : w64.cell? ⟨gb318, 2, none⟩ = some (.int .i64 0) := (blk_cell BK318.out 2).trans rfl
                  have hcz66_3 : w64.cell? ⟨gb318, 3, none⟩ = some (.int .i64 0) := (blk_cell BK318.out 3).trans rfl
                  have hcz66_4 : w64.cell? ⟨gb318, 4, none⟩ = some (.slice none 0 0) := (blk_cell BK318.out 4).trans rfl
                  have hfz66_0 := blk_frozen BK318.out 0
                  have hfz66_1 := blk_frozen BK318.out 1
                  have hfz66_2 := blk_frozen BK318.out 2
                  have hfz66_3 := blk_frozen BK318.out 3
                  have hfz66_4 := blk_frozen BK318.out 4
                  try go_wp2
                  refine bodyPost_ret (results_ct rfl _ _ gb318 24 #[.int .i64 0, .int .i64 0, .int .i64 0, .int .i64 0, .slice none 0 0] (0, 0) _ rfl (by (with_reducible repeat (first | refine k2 ?_ _ | refine k3 ?_ | refine k1 ?_ _)); refine blk_put (cs := #[.int .i64 0, .int .i64 0, .int .i64 0, .int .i64 0, .slice none 0 0]) ?_ 4 _ rfl; (with_reducible repeat (first | refine k2 ?_ _ | refine k3 ?_ | refine k1 ?_ _)); refine blk_put (cs := #[.int .i64 0, .int .i64 0, .int .i64 0, .int .i64 0, .slice none 0 0]) ?_ 3 _ rfl; (with_reducible repeat (first | refine k2 ?_ _ | refine k3 ?_ | refine k1 ?_ _)); refine blk_put (cs := #[.int .i64 0, .int .i64 0, .int .i64 0, .int .i64 0, .slice none 0 0]) ?_ 2 _ rfl; (with_reducible repeat (first | refine k2 ?_ _ | refine k3 ?_ | refine k1 ?_ _)); refine blk_put (cs := #[.int .i64 0, .int .i64 0, .int .i64 0, .int .i64 0, .slice none 0 0]) ?_ 1 _ rfl; (with_reducible repeat (first | refine k2 ?_ _ | refine k3 ?_ | refine k1 ?_ _)); refine blk_put (cs := #[.int .i64 0, .int .i64 0, .int .i64 0, .int .i64 0, .slice none 0 0]) ?_ 0 _ rfl; (with_reducible repeat (first | refine k2 ?_ _ | refine k3 ?_ | refine k1 ?_ _)); exact BK318.out) Try.underlying24 rfl (by kernel_rfl)) rfl ?_
                  exact ⟨_, by first | rfl | (simp [errW_none, errW_some] <;> rfl) | (simp only [← hji4, ← hji9]; first | rfl | (simp [errW_none, errW_some] <;> rfl)) | (simp [*, errW_none, errW_some] <;> rfl), by first | exact Kd.R_nil _ _ _ _ _ | exact Kd.N_nil _ _ _ _ _ | exact Kd.V_nil _ _ _ _ _ | exact Kd.Q_nil _ _ _ _ _ | exact Kd.S_nil _ _ _ _ _, by repeat (first | (with_reducible first | exact HB.out | apply b1 | apply b2 | apply b3 | refine below_set ?_ GE318.out | refine below_set ?_ GE334.out) | exact HB.out)⟩
                ·rw [if_neg c23] at H
                 have c23b0 : ((wrap64 (rd l0 6)) == (t331.length : Int)) = false := beq_eq_false_iff_ne.mpr c23
                 have c23b1 : ((wrap64 (rd l0 6)) != (t331.length : Int)) = true := bne_iff_ne.mpr c23
                 simp only [Option.some.injEq, Prod.mk.injEq] at H
                 obtain ⟨rfl, rfl, rfl, rfl, rfl, rfl⟩ := H
                 go_enter Try.func19, Try.ntmps19
                 try go_wp2_with (first | ((with_reducible refine gate_dst (N := 2) rfl ?_); refine box_event ?hg (N := 2) ?hd (cs := #[.int .i64 0, .int .i64 0, .int .i64 0, .int .i64 0, .slice none 0 0]) (t := 24) ?hr ?_; (case hd => rfl); (case hg => rfl); (case hr => first | (go_simp; done) | (go_simp; rfl)); intro gb318 hg w67 hbox hb; have n0_ := Aside0.mk (below_step (by first | with_reducible exact HB.out | exact sB HB.out) hb); have n1_ := Aside0.mk (hbox); have n2_ := Aside0.mk ((by rw [hg]; exact (below_size (by first | with_reducible exact HB.out | exact sB HB.out)) : w.heap.size ≤ gb318)); have n3_ := Aside0.mk ((by rw [hg]; exact (below_size (by first | with_reducible exact HB.out | exact sB HB.out)) : w.heap.size ≤ gb318)); clear HB; have HB := n0_; have BK318 := n1_; have GW318 := n2_; have GE318 := n3_; clear n0_ n1_ n2_ n3_; clear hb hbox hg) | ((with_reducible refine gate_callee (f := 28) rfl ?_); refine goesL_ (some 8) rfl rfl Try.func28 (by kernel_rfl) rfl #[.int .i64 (l0.length : Int), .int .i64 9, .int .i64 57] rfl (by (try simp only [List.map_toArray, List.map_cons, List.map_nil]); first | done | rfl | (simp only [List.length_drop, List.length_take]; rfl) | (go_simp; done) | (go_simp; rfl)) ?_; (with_reducible refine (wherryref18_in.calls (l0.length : Int) 9 57 true _ A2.out).mono ?_); rintro e w' ⟨rfl, ⟨nd, rfl⟩⟩; refine ⟨_, rfl, ?_⟩; (try (rw [drewN_self w67]; generalize hq_ : World.drewN w67 _ = w67; have n0_ : Aside0 (w67.heap[gb318]? = some (.cells #[.int .i64 0, .int .i64 0, .int .i64 0, .int .i64 0, .slice none 0 0] 24 (0, 0))) := ⟨by rw [← hq_]; exact (by first | with_reducible exact BK318.out | exact sK BK318.out)⟩; have n1_ : Aside0 (Below w.heap.size w w67) := ⟨by rw [← hq_]; exact (by repeat (first | (with_reducible first | exact HB.out | apply b1 | apply b2 | apply b3 | refine below_set ?_ GE318.out) | exact HB.out))⟩; clear BK318 HB hq_; have BK318 := n0_; have HB := n1_; clear n0_ n1_))))
                 have n0_ := Aside0.mk (blk_drew BK318.out)
                 have n1_ := Aside0.mk (below_drew1 HB.out)
                 clear BK318
                 clear HB
                 have BK318 := n0_
                 have HB := n1_
                 clear n0_ n1_
                 obtain ⟨i069, hi069, _, hsz69, _⟩ := info_parts info5
                 obtain ⟨hcut69, hA69, hC69⟩ := print_take_of (P := Try.prog) (Value.int .u8) 0 22 5 .i64 Try.underlying22 hi069 hsz69 A0 c0 l0 (ji4) (of_decide_eq_true (by first | (with_reducible assumption) | assumption)) (of_decide_eq_true (by first | (with_reducible assumption) | assumption)) HC0.out
                 have HR320 := Aside0.mk (Kd.C_of_reads (h1 := fun _ => rfl) (hA69 _ (Kd.reads_of_C HR0.out)))
                 have HC320 := Aside0.mk hC69
                 clear hA69 hC69 hi069 hsz69
                 have p322 : 0 ≤ ((ji4) : Int) := of_decide_eq_true (by first | (with_reducible assumption) | assumption)
                 have q322 : (ji4) < (l0.length : Int) := of_decide_eq_true (by first | (with_reducible assumption) | assumption)
                 obtain ⟨ad322, e322, hx322_0⟩ := Kd.at_int HR0.out (ji4) p322 q322
                 have hw322_0 := hx322_0
                 cases e322
                 replace hx322_0 := (HB.out.cell (World.block_lt_of_cell? w _ hx322_0)).trans hx322_0
                 replace p322 := eq_true p322
                 replace q322 := eq_true q322
                 have p323 : 0 ≤ ((ji9) : Int) := of_decide_eq_true (by first | (with_reducible assumption) | assumption)
                 have q323 : (ji9) < (l0.length : Int) := of_decide_eq_true (by first | (with_reducible assumption) | assumption)
                 obtain ⟨ad323, e323, hx323_0⟩ := Kd.at_int HR0.out (ji9) p323 q323
                 have hw323_0 := hx323_0
                 obtain rfl : ad322 = ad323 := (by injection e323)
                 replace hx323_0 := (HB.out.cell (World.block_lt_of_cell? w _ hx323_0)).trans hx323_0
                 replace p323 := eq_true p323
                 replace q323 := eq_true q323
                 refine start_ (n := 18) (S := fun w' => w'.cell? (ad322.add ((ji4)).toNat) = some (.int .u8 (rd l0 (ji4))) ∧ w'.cell? (ad322.add ((ji9)).toNat) = some (.int .u8 (rd l0 (ji9)))) (ds := []) (bu 18 0) (by kernel_rfl) rfl rfl ⟨((HB.out.cell (World.block_lt_of_cell? w _ hw322_0)).trans hw322_0), ((HB.out.cell (World.block_lt_of_cell? w _ hw323_0)).trans hw323_0)⟩ (fun hHeld => ?_); refine with_tabW wherryref18_ReadFrame.tab4 wherryref18_ReadFrame.bits4 (fun HT_ HW_ => ?_)
                 generalize w67.drew = w68 at BK318 HB HR320 hx322_0 hx323_0 hHeld ⊢
                 refine pA 0 14 (bu 18 1) ?_ HT_ rfl rfl (.inl ⟨by rfl, ?_⟩) ?_ ?_ ?_; rotate_left; (focus intro w'; go_simp; with_reducible rfl); rotate_left; (focus simp only [pk]; rfl)
                 refine pA 1 15 (bu 18 2) ?_ HT_ rfl rfl (.inl ⟨by rfl, ?_⟩) ?_ ?_ ?_; rotate_left; (focus intro w'; go_simp; with_reducible rfl); rotate_left; (focus simp only [pk]; rfl)
                 refine pA 2 16 (bu 18 3) ?_ HT_ rfl rfl (.inl ⟨by rfl, ?_⟩) ?_ ?_ ?_; rotate_left; (focus intro w'; go_simp; with_reducible rfl); rotate_left; (focus simp only [pk]; rfl)
                 refine pA 4 18 (bm 18 0x17) ?_ HT_ rfl rfl (.inl ⟨by rfl, ?_⟩) ?_ ?_ ?_; rotate_left; (focus intro w'; go_simp; with_reducible rfl); rotate_left; (focus simp only [pk]; rfl)
                 refine pA 5 19 (bm 18 0x37) ?_ HT_ rfl rfl (.inl ⟨by rfl, ?_⟩) ?_ ?_ ?_; rotate_left; (focus intro w'; go_simp; with_reducible rfl); rotate_left; (focus simp only [pk]; rfl)
                 refine pA 6 20 (bm 18 0x77) ?_ HT_ rfl rfl (.inl ⟨by rfl, ?_⟩) ?_ ?_ ?_; rotate_left; (focus intro w'; go_simp; with_reducible rfl); rotate_left; (focus simp only [pk]; rfl)
                 refine pA 9 23 (bm 18 0x277) ?_ HT_ rfl rfl (.inl ⟨by rfl, ?_⟩) ?_ ?_ ?_; rotate_left; (focus intro w'; go_simp; with_reducible rfl); rotate_left; (focus simp only [pk]; rfl)
                 refine pA 10 24 (bm 18 0x677) ?_ HT_ rfl rfl (.inl ⟨by rfl, ?_⟩) ?_ ?_ ?_; rotate_left; (focus intro w'; go_simp; with_reducible rfl); rotate_left; (focus simp only [pk]; rfl)
                 refine pA 11 25 (bm 18 0xe77) ?_ HT_ rfl rfl (.inl ⟨by rfl, ?_⟩) ?_ ?_ ?_; rotate_left; (focus intro w'; go_simp; with_reducible rfl); rotate_left; (focus simp only [pk]; rfl)
                 refine pA 12 26 (bm 18 0x1e77) ?_ HT_ rfl rfl (.inl ⟨by rfl, ?_⟩) ?_ ?_ ?_; rotate_left; (focus intro w'; go_simp; with_reducible rfl); rotate_left; (focus simp only [pk]; rfl)
                 refine tA 7 21 (bm 18 0x1ef7) ?_ HT_ HW_ rfl rfl (.inl ⟨by rfl, ?_⟩) hHeld ?_ ?_ ?_; rotate_left; (focus rintro w' ⟨s0, s1⟩; go_simp; with_reducible rfl); rotate_left; (focus simp only [pk]; rfl)
                 refine pA 8 22 (bm 18 0x1ff7) ?_ HT_ rfl rfl (.inl ⟨by rfl, ?_⟩) ?_ ?_ ?_; rotate_left; (focus intro w'; go_simp; with_reducible rfl); rotate_left; (focus simp only [pk]; rfl)
                 refine tA 13 27 (bm 18 0x3ff7) ?_ HT_ HW_ rfl rfl (.inl ⟨by rfl, ?_⟩) hHeld ?_ ?_ ?_; rotate_left; (focus rintro w' ⟨s0, s1⟩; go_simp; with_reducible rfl); rotate_left; (focus simp only [pk]; rfl)
                 refine pA 14 28 (bm 18 0x7ff7) ?_ HT_ rfl rfl (.inl ⟨by rfl, ?_⟩) ?_ ?_ ?_; rotate_left; (focus intro w'; go_simp; with_reducible rfl); rotate_left; (focus simp only [pk]; rfl)
                 refine pA 15 29 (bm 18 0xfff7) ?_ HT_ rfl rfl (.inl ⟨by rfl, ?_⟩) ?_ ?_ ?_; rotate_left; (focus intro w'; go_simp; with_reducible rfl); rotate_left; (focus simp only [pk]; rfl)
                 refine pA 16 30 (bm 18 0x1fff7) ?_ HT_ rfl rfl (.inl ⟨by rfl, ?_⟩) ?_ ?_ ?_; rotate_left; (focus intro w'; go_simp; with_reducible rfl); rotate_left; (focus simp only [pk]; rfl)
                 refine one_ (i := 3) (N := some 17) (bu 18 17) rfl rfl (one_of HT_.out (by kernel_rfl)) (by decide) (fun K hK => ?_)
                 refine goes_ Try.func30 (by kernel_rfl) rfl #[.slice (some ad322) (l0.take ((ji4) : Int).toNat).length c0] (by rfl) rfl rfl (by (try simp only [List.map_toArray, List.map_cons, List.map_nil]); first | done | (rw [show (l0.take ((ji4) : Int).toNat).length = (ji4).toNat from (by rw [List.length_take]; have h_ : ((ji4) : Int) ≤ (l0.length : Int) := of_decide_eq_true (by first | (with_reducible assumption) | assumption); omega)] <;> rfl) | (simp only [hji4]; rfl) | rfl | (simp only [List.length_drop, List.length_take]; rfl) | (go_simp; done) | (go_simp; rfl)) ?_
                 with_reducible refine (wherryref08_Short.calls k _ _ (l0.take ((ji4) : Int).toNat) t321 _ ?side1 ?side2 A7.out).mono ?_
                 (case side1 => first | with_reducible exact (Kd.C_below HR320.out HB.out) | exact sC ((Kd.C_below HR320.out HB.out)))
                 (case side2 => exact HC320.out)
                 rintro e w' ⟨rfl, ⟨nd, rfl⟩⟩
                 refine ⟨_, rfl, ?_⟩
                 refine hK.out _ _ ⟨((HB.out.cell (World.block_lt_of_cell? w _ hw322_0)).trans hw322_0), ((HB.out.cell (World.block_lt_of_cell? w _ hw323_0)).trans hw323_0)⟩ (fun hHeld => ?_)
                 clear hK K
                 refine norm_ (a' := ?_) ?_ ?_
                 rotate_left
                 ·show Act.put _ (some 17) _ = _
                  simp only [Act.put, List.setIfInBounds_toArray, List.set_cons_zero, List.set_cons_succ, i64_w, i32_w]
                  rfl
                 refine pA 17 31 (bu 18 18) ?_ HT_ rfl rfl (.inl ⟨by rfl, ?_⟩) ?_ ?_ ?_; rotate_left; (focus intro w'; go_simp; with_reducible rfl); rotate_left; (focus simp only [pk]; rfl)
                 refine done_ (done_of HT_.out (by kernel_rfl)) ?_
                 try go_wp2
                 (try (rw [drewN_self w68]; generalize hq_ : World.drewN w68 _ = w68; have n0_ : Aside0 (w68.heap[gb318]? = some (.cells #[.int .i64 0, .int .i64 0, .int .i64 0, .int .i64 0, .slice none 0 0] 24 (0, 0))) := ⟨by rw [← hq_]; exact (by first | with_reducible exact BK318.out | exact sK BK318.out)⟩; have n1_ : Aside0 (Below w.heap.size w w68) := ⟨by rw [← hq_]; exact (by repeat (first | (with_reducible first | exact HB.out | apply b1 | apply b2 | apply b3 | refine below_set ?_ GE318.out) | exact HB.out))⟩; clear BK318 HB hq_; have BK318 := n0_; have HB := n1_; clear n0_ n1_))
                 have n0_ := Aside0.mk (blk_drew BK318.out)
                 have n1_ := Aside0.mk (below_drew1 HB.out)
                 clear BK318
                 clear HB
                 have BK318 := n0_
                 have HB := n1_
                 clear n0_ n1_
                 have p324 : 0 ≤ (0 : Int) := (by omega)
                 have q324 : 0 < (l0.length : Int) := of_decide_eq_true (by first | (with_reducible assumption) | assumption)
                 obtain ⟨ad324, e324, hx324_0⟩ := Kd.at_int HR0.out 0 p324 q324
                 have hw324_0 := hx324_0
                 (try rw [show ((0 : Int)).toNat = 0 from rfl] at hw324_0)
                 (try rw [show 0 * 1 = 0 from rfl] at hw324_0)
                 (try rw [Addr.add_zero'] at hw324_0)
                 obtain rfl : ad322 = ad324 := (by injection e324)
                 have qi324 : (0 < l0.length) = True := eq_true (by omega)
                 (try rw [show ((0 : Int)).toNat = 0 from rfl] at hx324_0)
                 (try rw [Addr.add_zero'] at hx324_0)
                 replace hx324_0 := (HB.out.cell (World.block_lt_of_cell? w _ hx324_0)).trans hx324_0
                 replace p324 := eq_true p324
                 replace q324 := eq_true q324
                 have p325 : 0 ≤ (1 : Int) := (by omega)
                 have q325 : 1 < (l0.length : Int) := of_decide_eq_true (by first | (with_reducible assumption) | assumption)
                 obtain ⟨ad325, e325, hx325_0⟩ := Kd.at_int HR0.out 1 p325 q325
                 have hw325_0 := hx325_0
                 (try rw [show ((1 : Int)).toNat = 1 from rfl] at hw325_0)
                 (try rw [show 1 * 1 = 1 from rfl] at hw325_0)
                 (try simp only [Nat.reduceMul, Nat.reduceEqDiff, Go.Addr.add, ↓reduceIte] at hw325_0)
                 obtain rfl : ad322 = ad325 := (by injection e325)
                 (try simp only [show (1 : Int).toNat = 1 from rfl, Nat.reduceMul, Nat.reduceEqDiff, Go.Addr.add, ↓reduceIte] at hx325_0)
                 have qi325 : (1 < l0.length) = True := eq_true (by omega)
                 (try rw [show ((1 : Int)).toNat = 1 from rfl] at hx325_0)
                 replace hx325_0 := (HB.out.cell (World.block_lt_of_cell? w _ hx325_0)).trans hx325_0
                 replace p325 := eq_true p325
                 replace q325 := eq_true q325
                 have p326 : 0 ≤ (2 : Int) := (by omega)
                 have q326 : 2 < (l0.length : Int) := of_decide_eq_true (by first | (with_reducible assumption) | assumption)
                 obtain ⟨ad326, e326, hx326_0⟩ := Kd.at_int HR0.out 2 p326 q326
                 have hw326_0 := hx326_0
                 (try rw [show ((2 : Int)).toNat = 2 from rfl] at hw326_0)
                 (try rw [show 2 * 1 = 2 from rfl] at hw326_0)
                 (try simp only [Nat.reduceMul, Nat.reduceEqDiff, Go.Addr.add, ↓reduceIte] at hw326_0)
                 obtain rfl : ad322 = ad326 := (by injection e326)
                 (try simp only [show (2 : Int).toNat = 2 from rfl, Nat.reduceMul, Nat.reduceEqDiff, Go.Addr.add, ↓reduceIte] at hx326_0)
                 have qi326 : (2 < l0.length) = True := eq_true (by omega)
                 (try rw [show ((2 : Int)).toNat = 2 from rfl] at hx326_0)
                 replace hx326_0 := (HB.out.cell (World.block_lt_of_cell? w _ hx326_0)).trans hx326_0
                 replace p326 := eq_true p326
                 replace q326 := eq_true q326
                 have p327 : 0 ≤ (3 : Int) := (by omega)
                 have q327 : 3 < (l0.length : Int) := of_decide_eq_true (by first | (with_reducible assumption) | assumption)
                 obtain ⟨ad327, e327, hx327_0⟩ := Kd.at_int HR0.out 3 p327 q327
                 have hw327_0 := hx327_0
                 (try rw [show ((3 : Int)).toNat = 3 from rfl] at hw327_0)
                 (try rw [show 3 * 1 = 3 from rfl] at hw327_0)
                 (try simp only [Nat.reduceMul, Nat.reduceEqDiff, Go.Addr.add, ↓reduceIte] at hw327_0)
                 obtain rfl : ad322 = ad327 := (by injection e327)
                 (try simp only [show (3 : Int).toNat = 3 from rfl, Nat.reduceMul, Nat.reduceEqDiff, Go.Addr.add, ↓reduceIte] at hx327_0)
                 have qi327 : (3 < l0.length) = True := eq_true (by omega)
                 (try rw [show ((3 : Int)).toNat = 3 from rfl] at hx327_0)
                 replace hx327_0 := (HB.out.cell (World.block_lt_of_cell? w _ hx327_0)).trans hx327_0
                 replace p327 := eq_true p327
                 replace q327 := eq_true q327
                 have p328 : 0 ≤ (4 : Int) := (by omega)
                 have q328 : 4 < (l0.length : Int) := of_decide_eq_true (by first | (with_reducible assumption) | assumption)
                 obtain ⟨ad328, e328, hx328_0⟩ := Kd.at_int HR0.out 4 p328 q328
                 have hw328_0 := hx328_0
                 (try rw [show ((4 : Int)).toNat = 4 from rfl] at hw328_0)
                 (try rw [show 4 * 1 = 4 from rfl] at hw328_0)
                 (try simp only [Nat.reduceMul, Nat.reduceEqDiff, Go.Addr.add, ↓reduceIte] at hw328_0)
                 obtain rfl : ad322 = ad328 := (by injection e328)
                 (try simp only [show (4 : Int).toNat = 4 from rfl, Nat.reduceMul, Nat.reduceEqDiff, Go.Addr.add, ↓reduceIte] at hx328_0)
                 have qi328 : (4 < l0.length) = True := eq_true (by omega)
                 (try rw [show ((4 : Int)).toNat = 4 from rfl] at hx328_0)
                 replace hx328_0 := (HB.out.cell (World.block_lt_of_cell? w _ hx328_0)).trans hx328_0
                 replace p328 := eq_true p328
                 replace q328 := eq_true q328
                 have p329 : 0 ≤ (5 : Int) := (by omega)
                 have q329 : 5 < (l0.length : Int) := of_decide_eq_true (by first | (with_reducible assumption) | assumption)
                 obtain ⟨ad329, e329, hx329_0⟩ := Kd.at_int HR0.out 5 p329 q329
                 have hw329_0 := hx329_0
                 (try rw [show ((5 : Int)).toNat = 5 from rfl] at hw329_0)
                 (try rw [show 5 * 1 = 5 from rfl] at hw329_0)
                 (try simp only [Nat.reduceMul, Nat.reduceEqDiff, Go.Addr.add, ↓reduceIte] at hw329_0)
                 obtain rfl : ad322 = ad329 := (by injection e329)
                 (try simp only [show (5 : Int).toNat = 5 from rfl, Nat.reduceMul, Nat.reduceEqDiff, Go.Addr.add, ↓reduceIte] at hx329_0)
                 have qi329 : (5 < l0.length) = True := eq_true (by omega)
                 (try rw [show ((5 : Int)).toNat = 5 from rfl] at hx329_0)
                 replace hx329_0 := (HB.out.cell (World.block_lt_of_cell? w _ hx329_0)).trans hx329_0
                 replace p329 := eq_true p329
                 replace q329 := eq_true q329
                 obtain ⟨i071, hi071, _, hsz71, _⟩ := info_parts info5
                 obtain ⟨A71, hcut71, hA71, hC71⟩ := print_mid_of (P := Try.prog) (Value.int .u8) 0 22 5 .i64 .i64 Try.underlying22 hi071 hsz71 (some ad322) c0 l0 7 (ji4) (by omega) (by first | omega | exact of_decide_eq_true (by first | (with_reducible assumption) | assumption)) (of_decide_eq_true (by first | (with_reducible assumption) | assumption)) HC0.out
                 have HR330 := Aside0.mk (Kd.C_of_reads (h1 := fun _ => rfl) (hA71 _ (Kd.reads_of_C HR0.out)))
                 have HC330 := Aside0.mk hC71
                 clear hA71 hC71 hi071 hsz71
                 refine start_ (n := 35) (S := fun w' => w'.cell? ad322 = some (.int .u8 (rd l0 0)) ∧ w'.cell? ⟨ad322.block, ad322.off + 1, none⟩ = some (.int .u8 (rd l0 1)) ∧ w'.cell? ⟨ad322.block, ad322.off + 2, none⟩ = some (.int .u8 (rd l0 2)) ∧ w'.cell? ⟨ad322.block, ad322.off + 3, none⟩ = some (.int .u8 (rd l0 3)) ∧ w'.cell? ⟨ad322.block, ad322.off + 4, none⟩ = some (.int .u8 (rd l0 4)) ∧ w'.cell? ⟨ad322.block, ad322.off + 5, none⟩ = some (.int .u8 (rd l0 5))) (ds := []) (bu 35 0) (by kernel_rfl) rfl rfl ⟨((HB.out.cell (World.block_lt_of_cell? w _ hw324_0)).trans hw324_0), ((HB.out.cell (World.block_lt_of_cell? w _ hw325_0)).trans hw325_0), ((HB.out.cell (World.block_lt_of_cell? w _ hw326_0)).trans hw326_0), ((HB.out.cell (World.block_lt_of_cell? w _ hw327_0)).trans hw327_0), ((HB.out.cell (World.block_lt_of_cell? w _ hw328_0)).trans hw328_0), ((HB.out.cell (World.block_lt_of_cell? w _ hw329_0)).trans hw329_0)⟩ (fun hHeld => ?_); refine with_tabW wherryref18_ReadFrame.tab6 wherryref18_ReadFrame.bits6 (fun HT_ HW_ => ?_)
                 generalize w68.drew = w70 at BK318 HB HR330 hx324_0 hx325_0 hx326_0 hx327_0 hx328_0 hx329_0 hHeld ⊢
                 refine pA 0 33 (bu 35 1) ?_ HT_ rfl rfl (.inl ⟨by rfl, ?_⟩) ?_ ?_ ?_; rotate_left; (focus intro w'; go_simp; with_reducible rfl); rotate_left; (focus simp only [pk]; rfl)
                 refine pA 1 34 (bu 35 2) ?_ HT_ rfl rfl (.inl ⟨by rfl, ?_⟩) ?_ ?_ ?_; rotate_left; (focus intro w'; go_simp; with_reducible rfl); rotate_left; (focus simp only [pk]; rfl)
                 refine pA 4 37 (bm 35 0x13) ?_ HT_ rfl rfl (.inl ⟨by rfl, ?_⟩) ?_ ?_ ?_; rotate_left; (focus intro w'; go_simp; with_reducible rfl); rotate_left; (focus simp only [pk]; rfl)
                 refine pA 5 38 (bm 35 0x33) ?_ HT_ rfl rfl (.inl ⟨by rfl, ?_⟩) ?_ ?_ ?_; rotate_left; (focus intro w'; go_simp; with_reducible rfl); rotate_left; (focus simp only [pk]; rfl)
                 refine pA 9 42 (bm 35 0x233) ?_ HT_ rfl rfl (.inl ⟨by rfl, ?_⟩) ?_ ?_ ?_; rotate_left; (focus intro w'; go_simp; with_reducible rfl); rotate_left; (focus simp only [pk]; rfl)
                 refine pA 10 43 (bm 35 0x633) ?_ HT_ rfl rfl (.inl ⟨by rfl, ?_⟩) ?_ ?_ ?_; rotate_left; (focus intro w'; go_simp; with_reducible rfl); rotate_left; (focus simp only [pk]; rfl)
                 refine pA 14 47 (bm 35 0x4633) ?_ HT_ rfl rfl (.inl ⟨by rfl, ?_⟩) ?_ ?_ ?_; rotate_left; (focus intro w'; go_simp; with_reducible rfl); rotate_left; (focus simp only [pk]; rfl)
                 refine pA 15 48 (bm 35 0xc633) ?_ HT_ rfl rfl (.inl ⟨by rfl, ?_⟩) ?_ ?_ ?_; rotate_left; (focus intro w'; go_simp; with_reducible rfl); rotate_left; (focus simp only [pk]; rfl)
                 refine pA 19 52 (bm 35 0x8c633) ?_ HT_ rfl rfl (.inl ⟨by rfl, ?_⟩) ?_ ?_ ?_; rotate_left; (focus intro w'; go_simp; with_reducible rfl); rotate_left; (focus simp only [pk]; rfl)
                 refine pA 20 53 (bm 35 0x18c633) ?_ HT_ rfl rfl (.inl ⟨by rfl, ?_⟩) ?_ ?_ ?_; rotate_left; (focus intro w'; go_simp; with_reducible rfl); rotate_left; (focus simp only [pk]; rfl)
                 refine pA 24 57 (bm 35 0x118c633) ?_ HT_ rfl rfl (.inl ⟨by rfl, ?_⟩) ?_ ?_ ?_; rotate_left; (focus intro w'; go_simp; with_reducible rfl); rotate_left; (focus simp only [pk]; rfl)
                 refine pA 25 58 (bm 35 0x318c633) ?_ HT_ rfl rfl (.inl ⟨by rfl, ?_⟩) ?_ ?_ ?_; rotate_left; (focus intro w'; go_simp; with_reducible rfl); rotate_left; (focus simp only [pk]; rfl)
                 refine pA 28 61 (bm 35 0x1318c633) ?_ HT_ rfl rfl (.inl ⟨by rfl, ?_⟩) ?_ ?_ ?_; rotate_left; (focus intro w'; go_simp; with_reducible rfl); rotate_left; (focus simp only [pk]; rfl)
                 refine pA 29 62 (bm 35 0x3318c633) ?_ HT_ rfl rfl (.inl ⟨by rfl, ?_⟩) ?_ ?_ ?_; rotate_left; (focus intro w'; go_simp; with_reducible rfl); rotate_left; (focus simp only [pk]; rfl)
                 refine pA 30 63 (bm 35 0x7318c633) ?_ HT_ rfl rfl (.inl ⟨by rfl, ?_⟩) ?_ ?_ ?_; rotate_left; (focus intro w'; go_simp; with_reducible rfl); rotate_left; (focus simp only [pk]; rfl)
                 refine tA 2 35 (bm 35 0x7318c637) ?_ HT_ HW_ rfl rfl (.inl ⟨by rfl, ?_⟩) hHeld ?_ ?_ ?_; rotate_left; (focus rintro w' ⟨s0, s1, s2, s3, s4, s5⟩; go_simp; with_reducible rfl); rotate_left; (focus simp only [pk]; rfl)
                 refine pA 3 36 (bm 35 0x7318c63f) ?_ HT_ rfl rfl (.inl ⟨by rfl, ?_⟩) ?_ ?_ ?_; rotate_left; (focus intro w'; go_simp; with_reducible rfl); rotate_left; (focus simp only [pk]; rfl)
                 refine tA 6 39 (bm 35 0x7318c67f) ?_ HT_ HW_ rfl rfl (.inl ⟨by rfl, ?_⟩) hHeld ?_ ?_ ?_; rotate_left; (focus rintro w' ⟨s0, s1, s2, s3, s4, s5⟩; go_simp; with_reducible rfl); rotate_left; (focus simp only [pk]; rfl)
                 refine pA 7 40 (bm 35 0x7318c6ff) ?_ HT_ rfl rfl (.inl ⟨by rfl, ?_⟩) ?_ ?_ ?_; rotate_left; (focus intro w'; go_simp; with_reducible rfl); rotate_left; (focus simp only [pk]; rfl)
                 refine pA 8 41 (bm 35 0x7318c7ff) ?_ HT_ rfl rfl (.inl ⟨by rfl, ?_⟩) ?_ ?_ ?_; rotate_left; (focus intro w'; go_simp; with_reducible rfl); rotate_left; (focus simp only [pk]; rfl)
                 refine tA 11 44 (bm 35 0x7318cfff) ?_ HT_ HW_ rfl rfl (.inl ⟨by rfl, ?_⟩) hHeld ?_ ?_ ?_; rotate_left; (focus rintro w' ⟨s0, s1, s2, s3, s4, s5⟩; go_simp; with_reducible rfl); rotate_left; (focus simp only [pk]; rfl)
                 refine pA 12 45 (bm 35 0x7318dfff) ?_ HT_ rfl rfl (.inl ⟨by rfl, ?_⟩) ?_ ?_ ?_; rotate_left; (focus intro w'; go_simp; with_reducible rfl); rotate_left; (focus simp only [pk]; rfl)
                 refine pA 13 46 (bm 35 0x7318ffff) ?_ HT_ rfl rfl (.inl ⟨by rfl, ?_⟩) ?_ ?_ ?_; rotate_left; (focus intro w'; go_simp; with_reducible rfl); rotate_left; (focus simp only [pk]; rfl)
                 refine tA 16 49 (bm 35 0x7319ffff) ?_ HT_ HW_ rfl rfl (.inl ⟨by rfl, ?_⟩) hHeld ?_ ?_ ?_; rotate_left; (focus rintro w' ⟨s0, s1, s2, s3, s4, s5⟩; go_simp; with_reducible rfl); rotate_left; (focus simp only [pk]; rfl)
                 refine pA 17 50 (bm 35 0x731bffff) ?_ HT_ rfl rfl (.inl ⟨by rfl, ?_⟩) ?_ ?_ ?_; rotate_left; (focus intro w'; go_simp; with_reducible rfl); rotate_left; (focus simp only [pk]; rfl)
                 refine pA 18 51 (bm 35 0x731fffff) ?_ HT_ rfl rfl (.inl ⟨by rfl, ?_⟩) ?_ ?_ ?_; rotate_left; (focus intro w'; go_simp; with_reducible rfl); rotate_left; (focus simp only [pk]; rfl)
                 refine tA 21 54 (bm 35 0x733fffff) ?_ HT_ HW_ rfl rfl (.inl ⟨by rfl, ?_⟩) hHeld ?_ ?_ ?_; rotate_left; (focus rintro w' ⟨s0, s1, s2, s3, s4, s5⟩; go_simp; with_reducible rfl); rotate_left; (focus simp only [pk]; rfl)
                 refine pA 22 55 (bm 35 0x737fffff) ?_ HT_ rfl rfl (.inl ⟨by rfl, ?_⟩) ?_ ?_ ?_; rotate_left; (focus intro w'; go_simp; with_reducible rfl); rotate_left; (focus simp only [pk]; rfl)
                 refine pA 23 56 (bm 35 0x73ffffff) ?_ HT_ rfl rfl (.inl ⟨by rfl, ?_⟩) ?_ ?_ ?_; rotate_left; (focus intro w'; go_simp; with_reducible rfl); rotate_left; (focus simp only [pk]; rfl)
                 refine tA 26 59 (bm 35 0x77ffffff) ?_ HT_ HW_ rfl rfl (.inl ⟨by rfl, ?_⟩) hHeld ?_ ?_ ?_; rotate_left; (focus rintro w' ⟨s0, s1, s2, s3, s4, s5⟩; go_simp; with_reducible rfl); rotate_left; (focus simp only [pk]; rfl)
                 refine pA 27 60 (bu 35 31) ?_ HT_ rfl rfl (.inl ⟨by rfl, ?_⟩) ?_ ?_ ?_; rotate_left; (focus intro w'; go_simp; with_reducible rfl); rotate_left; (focus simp only [pk]; rfl)
                 refine join_ (σ := Value × Nat) 1 (bu 35 34) (fun s_ => [(64, s_.1), (5, .pointer (some ⟨s_.2, 0, none⟩)), (65, .agg #[.int .i64 (wrap64 (rd l0 0)), .int .i64 (Go.bits .or .i64 (wrap64 ((wrap64 (rd l0 1)) * 256)) (wrap64 (rd l0 2))), .int .i64 (Go.bits .or .i64 (wrap64 ((wrap64 (rd l0 3)) * 256)) (wrap64 (rd l0 4))), .int .i64 (wrap64 (rd l0 5)), s_.1])]) (fun s_ w' => (w'.cell? ad322 = some (.int .u8 (rd l0 0)) ∧ w'.cell? ⟨ad322.block, ad322.off + 1, none⟩ = some (.int .u8 (rd l0 1)) ∧ w'.cell? ⟨ad322.block, ad322.off + 2, none⟩ = some (.int .u8 (rd l0 2)) ∧ w'.cell? ⟨ad322.block, ad322.off + 3, none⟩ = some (.int .u8 (rd l0 3)) ∧ w'.cell? ⟨ad322.block, ad322.off + 4, none⟩ = some (.int .u8 (rd l0 4)) ∧ w'.cell? ⟨ad322.block, ad322.off + 5, none⟩ = some (.int .u8 (rd l0 5))) ∧ (Kd.R (Kd.int .u8) 5 w' w.heap.size (fun _ => True) s_.1 t331) ∧ (w'.heap[gb318]? = some (.cells #[.int .i64 0, .int .i64 0, .int .i64 0, .int .i64 0, .slice none 0 0] 24 (0, 0))) ∧ (w'.heap[s_.2]? = some (.cells #[.int .i64 0, .int .i64 0, .int .i64 0, .int .i64 0, .slice none 0 0] 24 (0, 0))) ∧ (w.heap.size ≤ s_.2) ∧ (w.heap.size ≤ s_.2) ∧ (gb318 ≠ s_.2) ∧ (s_.2 ≠ gb318) ∧ (Below w.heap.size w w')) ?_ ?_
                 rotate_left
                 ·intro hCont
                  refine two_ (i := 31) (j := 33) (Ni := some 64) (Nj := some 5) (bu 35 32) (bm 35 0x27fffffff) rfl rfl rfl rfl (two_of HT_.out (by kernel_rfl)) (by decide) (by decide) (fun K hK => ?_) (fun K hK => ?_)
                  ·skip
                   refine goes_ Try.func15 (by kernel_rfl) rfl #[.slice A71 ((l0.take ((ji4) : Int).toNat).drop 7).length (c0 - 7)] (by rfl) rfl rfl (by (try simp only [List.map_toArray, List.map_cons, List.map_nil]); first | done | (rw [show ((l0.take ((ji4) : Int).toNat).drop 7).length = ((ji4).toNat - 7) from (by rw [List.length_drop, List.length_take]; have h_ : ((ji4) : Int) ≤ (l0.length : Int) := of_decide_eq_true (by first | (with_reducible assumption) | assumption); omega)] <;> rfl) | (simp only [hji4]; rfl) | rfl | (simp only [List.length_drop, List.length_take]; rfl) | (go_simp; done) | (go_simp; rfl)) ?_
                   with_reducible refine (wherrykeep_Twin.calls _ _ ((l0.take ((ji4) : Int).toNat).drop 7) t331 _ ?side1 ?side2 A21.out).mono ?_
                   (case side1 => first | with_reducible exact (Kd.C_below HR330.out HB.out) | exact sC ((Kd.C_below HR330.out HB.out)))
                   (case side2 => exact HC330.out)
                   rintro e w72 ⟨v332, rfl, ho0, hb⟩
                   refine ⟨_, rfl, ?_⟩
                   have n0_ := Aside0.mk (Kd.R_lower ho0 (below_size (by repeat (first | (with_reducible first | exact HB.out | apply b1 | apply b2 | apply b3 | refine below_set ?_ GE318.out) | exact HB.out))))
                   have n1_ := Aside0.mk (bK BK318.out hb)
                   have n2_ := Aside0.mk (below_step (by repeat (first | (with_reducible first | exact HB.out | apply b1 | apply b2 | apply b3 | refine below_set ?_ GE318.out) | exact HB.out)) hb)
                   clear BK318
                   clear HB
                   have HO333 := n0_
                   have BK318 := n1_
                   have HB := n2_
                   clear n0_ n1_ n2_
                   (try clear hb)
                   (try clear hb2)
                   (try clear hk)
                   (try clear hi)
                   (try clear ho0)
                   obtain ⟨Ao73, co73, eo73⟩ := Kd.R_slice HO333.out
                   (first | subst eo73 | (injection eo73 with f1_ f2_ f3_; have f4_ := f1_.symm; have f5_ := f3_.symm; clear f1_ f2_ f3_; subst f4_; subst f5_))
                   refine hK.out _ _ ⟨((HB.out.cell (World.block_lt_of_cell? w _ hw324_0)).trans hw324_0), ((HB.out.cell (World.block_lt_of_cell? w _ hw325_0)).trans hw325_0), ((HB.out.cell (World.block_lt_of_cell? w _ hw326_0)).trans hw326_0), ((HB.out.cell (World.block_lt_of_cell? w _ hw327_0)).trans hw327_0), ((HB.out.cell (World.block_lt_of_cell? w _ hw328_0)).trans hw328_0), ((HB.out.cell (World.block_lt_of_cell? w _ hw329_0)).trans hw329_0)⟩ (fun hHeld => ?_)
                   clear hK K
                   refine norm_ (a' := ?_) ?_ ?_
                   rotate_left
                   ·show Act.put _ (some 64) _ = _
                    simp only [Act.put, List.setIfInBounds_toArray, List.set_cons_zero, List.set_cons_succ, i64_w, i32_w]
                    rfl
                   refine pA 32 65 (bu 35 33) ?_ HT_ rfl rfl (.inl ⟨by rfl, ?_⟩) ?_ ?_ ?_; rotate_left; (focus intro w'; go_simp; with_reducible rfl); rotate_left; (focus simp only [pk]; rfl)
                   refine one_ (i := 33) (N := some 5) (bu 35 34) rfl rfl (one_of HT_.out (by kernel_rfl)) (by decide) (fun K hK => ?_)
                   refine box_step ?hg (N := 5) ?hd (cs := #[.int .i64 0, .int .i64 0, .int .i64 0, .int .i64 0, .slice none 0 0]) (t := 24) ?hr ?_; (case hd => rfl); (case hg => rfl); (case hr => first | (go_simp; done) | (go_simp; rfl))
                   intro gb334 hg w74 hbox hb
                   have n0_ := Aside0.mk (bR HO333.out hb)
                   have n1_ := Aside0.mk (bK BK318.out hb)
                   have n2_ := Aside0.mk (below_step (by repeat (first | (with_reducible first | exact HB.out | apply b1 | apply b2 | apply b3 | refine below_set ?_ GE318.out) | exact HB.out)) hb)
                   have n3_ := Aside0.mk (hbox)
                   have n4_ := Aside0.mk ((by rw [hg]; exact (below_size (by repeat (first | (with_reducible first | exact HB.out | apply b1 | apply b2 | apply b3 | refine below_set ?_ GE318.out) | exact HB.out))) : w.heap.size ≤ gb334))
                   have n5_ := Aside0.mk ((by rw [hg]; exact (below_size (by repeat (first | (with_reducible first | exact HB.out | apply b1 | apply b2 | apply b3 | refine below_set ?_ GE318.out) | exact HB.out))) : w.heap.size ≤ gb334))
                   have n6_ := Aside0.mk ((by rw [hg]; exact Nat.ne_of_lt (blk_lt (g := gb318) (o := .cells #[.int .i64 0, .int .i64 0, .int .i64 0, .int .i64 0, .slice none 0 0] 24 (0, 0)) (by first | with_reducible exact BK318.out | exact sK BK318.out)) : gb318 ≠ gb334))
                   have n7_ := Aside0.mk ((by rw [hg]; exact Nat.ne_of_gt (blk_lt (g := gb318) (o := .cells #[.int .i64 0, .int .i64 0, .int .i64 0, .int .i64 0, .slice none 0 0] 24 (0, 0)) (by first | with_reducible exact BK318.out | exact sK BK318.out)) : gb334 ≠ gb318))
                   clear HO333
                   clear BK318
                   clear HB
                   have HO333 := n0_
                   have BK318 := n1_
                   have HB := n2_
                   have BK334 := n3_
                   have GW334 := n4_
                   have GE334 := n5_
                   have NB318_334 := n6_
                   have NB334_318 := n7_
                   clear n0_ n1_ n2_ n3_ n4_ n5_ n6_ n7_
                   clear hb hbox hg
                   refine hK.out _ _ ⟨((HB.out.cell (World.block_lt_of_cell? w _ hw324_0)).trans hw324_0), ((HB.out.cell (World.block_lt_of_cell? w _ hw325_0)).trans hw325_0), ((HB.out.cell (World.block_lt_of_cell? w _ hw326_0)).trans hw326_0), ((HB.out.cell (World.block_lt_of_cell? w _ hw327_0)).trans hw327_0), ((HB.out.cell (World.block_lt_of_cell? w _ hw328_0)).trans hw328_0), ((HB.out.cell (World.block_lt_of_cell? w _ hw329_0)).trans hw329_0)⟩ (fun hHeld => ?_)
                   clear hK K
                   refine norm_ (a' := ?_) ?_ ?_
                   rotate_left
                   ·show Act.put _ (some 5) _ = _
                    simp only [Act.put, List.setIfInBounds_toArray, List.set_cons_zero, List.set_cons_succ, i64_w, i32_w]
                    rfl
                   exact norm_ (by simp only [putAll, Act.put, List.setIfInBounds_toArray, List.set_cons_zero, List.set_cons_succ]) (hCont (.slice Ao73 t331.length co73, gb334) _ ⟨hHeld, (by first | with_reducible exact HO333.out | exact sR HO333.out), (by first | with_reducible exact BK318.out | exact sK BK318.out), (by first | with_reducible exact BK334.out | exact sK BK334.out), GW334.out, GE334.out, NB318_334.out, NB334_318.out, (by repeat (first | (with_reducible first | exact HB.out | apply b1 | apply b2 | apply b3 | refine below_set ?_ GE318.out | refine below_set ?_ GE334.out) | exact HB.out))⟩)
                  ·skip
                   refine box_step ?hg (N := 5) ?hd (cs := #[.int .i64 0, .int .i64 0, .int .i64 0, .int .i64 0, .slice none 0 0]) (t := 24) ?hr ?_; (case hd => rfl); (case hg => rfl); (case hr => first | (go_simp; done) | (go_simp; rfl))
                   intro gb334 hg w72 hbox hb
                   have n0_ := Aside0.mk (bK BK318.out hb)
                   have n1_ := Aside0.mk (below_step (by repeat (first | (with_reducible first | exact HB.out | apply b1 | apply b2 | apply b3 | refine below_set ?_ GE318.out) | exact HB.out)) hb)
                   have n2_ := Aside0.mk (hbox)
                   have n3_ := Aside0.mk ((by rw [hg]; exact (below_size (by repeat (first | (with_reducible first | exact HB.out | apply b1 | apply b2 | apply b3 | refine below_set ?_ GE318.out) | exact HB.out))) : w.heap.size ≤ gb334))
                   have n4_ := Aside0.mk ((by rw [hg]; exact (below_size (by repeat (first | (with_reducible first | exact HB.out | apply b1 | apply b2 | apply b3 | refine below_set ?_ GE318.out) | exact HB.out))) : w.heap.size ≤ gb334))
                   have n5_ := Aside0.mk ((by rw [hg]; exact Nat.ne_of_lt (blk_lt (g := gb318) (o := .cells #[.int .i64 0, .int .i64 0, .int .i64 0, .int .i64 0, .slice none 0 0] 24 (0, 0)) (by first | with_reducible exact BK318.out | exact sK BK318.out)) : gb318 ≠ gb334))
                   have n6_ := Aside0.mk ((by rw [hg]; exact Nat.ne_of_gt (blk_lt (g := gb318) (o := .cells #[.int .i64 0, .int .i64 0, .int .i64 0, .int .i64 0, .slice none 0 0] 24 (0, 0)) (by first | with_reducible exact BK318.out | exact sK BK318.out)) : gb334 ≠ gb318))
                   clear BK318
                   clear HB
                   have BK318 := n0_
                   have HB := n1_
                   have BK334 := n2_
                   have GW334 := n3_
                   have GE334 := n4_
                   have NB318_334 := n5_
                   have NB334_318 := n6_
                   clear n0_ n1_ n2_ n3_ n4_ n5_ n6_
                   clear hb hbox hg
                   refine hK.out _ _ ⟨((HB.out.cell (World.block_lt_of_cell? w _ hw324_0)).trans hw324_0), ((HB.out.cell (World.block_lt_of_cell? w _ hw325_0)).trans hw325_0), ((HB.out.cell (World.block_lt_of_cell? w _ hw326_0)).trans hw326_0), ((HB.out.cell (World.block_lt_of_cell? w _ hw327_0)).trans hw327_0), ((HB.out.cell (World.block_lt_of_cell? w _ hw328_0)).trans hw328_0), ((HB.out.cell (World.block_lt_of_cell? w _ hw329_0)).trans hw329_0)⟩ (fun hHeld => ?_)
                   clear hK K
                   refine norm_ (a' := ?_) ?_ ?_
                   rotate_left
                   ·show Act.put _ (some 5) _ = _
                    simp only [Act.put, List.setIfInBounds_toArray, List.set_cons_zero, List.set_cons_succ, i64_w, i32_w]
                    rfl
                   refine one_ (i := 31) (N := some 64) (bm 35 0x2ffffffff) rfl rfl (one_of HT_.out (by kernel_rfl)) (by decide) (fun K hK => ?_)
                   refine goes_ Try.func15 (by kernel_rfl) rfl #[.slice A71 ((l0.take ((ji4) : Int).toNat).drop 7).length (c0 - 7)] (by rfl) rfl rfl (by (try simp only [List.map_toArray, List.map_cons, List.map_nil]); first | done | (rw [show ((l0.take ((ji4) : Int).toNat).drop 7).length = ((ji4).toNat - 7) from (by rw [List.length_drop, List.length_take]; have h_ : ((ji4) : Int) ≤ (l0.length : Int) := of_decide_eq_true (by first | (with_reducible assumption) | assumption); omega)] <;> rfl) | (simp only [hji4]; rfl) | rfl | (simp only [List.length_drop, List.length_take]; rfl) | (go_simp; done) | (go_simp; rfl)) ?_
                   with_reducible refine (wherrykeep_Twin.calls _ _ ((l0.take ((ji4) : Int).toNat).drop 7) t331 _ ?side1 ?side2 A21.out).mono ?_
                   (case side1 => first | with_reducible exact (Kd.C_below HR330.out HB.out) | exact sC ((Kd.C_below HR330.out HB.out)))
                   (case side2 => exact HC330.out)
                   rintro e w73 ⟨v332, rfl, ho0, hb⟩
                   refine ⟨_, rfl, ?_⟩
                   have n0_ := Aside0.mk (Kd.R_lower ho0 (below_size (by repeat (first | (with_reducible first | exact HB.out | apply b1 | apply b2 | apply b3 | refine below_set ?_ GE318.out | refine below_set ?_ GE334.out) | exact HB.out))))
                   have n1_ := Aside0.mk (bK BK318.out hb)
                   have n2_ := Aside0.mk (bK BK334.out hb)
                   have n3_ := Aside0.mk (below_step (by repeat (first | (with_reducible first | exact HB.out | apply b1 | apply b2 | apply b3 | refine below_set ?_ GE318.out | refine below_set ?_ GE334.out) | exact HB.out)) hb)
                   clear BK318
                   clear BK334
                   clear HB
                   have HO333 := n0_
                   have BK318 := n1_
                   have BK334 := n2_
                   have HB := n3_
                   clear n0_ n1_ n2_ n3_
                   (try clear hb)
                   (try clear hb2)
                   (try clear hk)
                   (try clear hi)
                   (try clear ho0)
                   obtain ⟨Ao74, co74, eo74⟩ := Kd.R_slice HO333.out
                   (first | subst eo74 | (injection eo74 with f1_ f2_ f3_; have f4_ := f1_.symm; have f5_ := f3_.symm; clear f1_ f2_ f3_; subst f4_; subst f5_))
                   refine hK.out _ _ ⟨((HB.out.cell (World.block_lt_of_cell? w _ hw324_0)).trans hw324_0), ((HB.out.cell (World.block_lt_of_cell? w _ hw325_0)).trans hw325_0), ((HB.out.cell (World.block_lt_of_cell? w _ hw326_0)).trans hw326_0), ((HB.out.cell (World.block_lt_of_cell? w _ hw327_0)).trans hw327_0), ((HB.out.cell (World.block_lt_of_cell? w _ hw328_0)).trans hw328_0), ((HB.out.cell (World.block_lt_of_cell? w _ hw329_0)).trans hw329_0)⟩ (fun hHeld => ?_)
                   clear hK K
                   refine norm_ (a' := ?_) ?_ ?_
                   rotate_left
                   ·show Act.put _ (some 64) _ = _
                    simp only [Act.put, List.setIfInBounds_toArray, List.set_cons_zero, List.set_cons_succ, i64_w, i32_w]
                    rfl
                   refine pA 32 65 (bu 35 34) ?_ HT_ rfl rfl (.inl ⟨by rfl, ?_⟩) ?_ ?_ ?_; rotate_left; (focus intro w'; go_simp; with_reducible rfl); rotate_left; (focus simp only [pk]; rfl)
                   exact norm_ (by simp only [putAll, Act.put, List.setIfInBounds_toArray, List.set_cons_zero, List.set_cons_succ]) (hCont (.slice Ao74 t331.length co74, gb334) _ ⟨hHeld, (by first | with_reducible exact HO333.out | exact sR HO333.out), (by first | with_reducible exact BK318.out | exact sK BK318.out), (by first | with_reducible exact BK334.out | exact sK BK334.out), GW334.out, GE334.out, NB318_334.out, NB334_318.out, (by repeat (first | (with_reducible first | exact HB.out | apply b1 | apply b2 | apply b3 | refine below_set ?_ GE318.out | refine below_set ?_ GE334.out) | exact HB.out))⟩)
                 rintro ⟨v332, gb334⟩ w75 ⟨hS_, h0_, h1_, h2_, h3_, h4_, h5_, h6_, h7_⟩
                 have n0_ : Aside0 (Kd.R (Kd.int .u8) 5 w75 w.heap.size (fun _ => True) v332 t331) := ⟨h0_⟩
                 have n1_ : Aside0 (w75.heap[gb318]? = some (.cells #[.int .i64 0, .int .i64 0, .int .i64 0, .int .i64 0, .slice none 0 0] 24 (0, 0))) := ⟨h1_⟩
                 have n2_ : Aside0 (w75.heap[gb334]? = some (.cells #[.int .i64 0, .int .i64 0, .int .i64 0, .int .i64 0, .slice none 0 0] 24 (0, 0))) := ⟨h2_⟩
                 have n3_ : Aside0 (w.heap.size ≤ gb334) := ⟨h3_⟩
                 have n4_ : Aside0 (w.heap.size ≤ gb334) := ⟨h4_⟩
                 have n5_ : Aside0 (gb318 ≠ gb334) := ⟨h5_⟩
                 have n6_ : Aside0 (gb334 ≠ gb318) := ⟨h6_⟩
                 have n7_ : Aside0 (Below w.heap.size w w75) := ⟨h7_⟩
                 clear BK318
                 clear HB
                 clear h0_ h1_ h2_ h3_ h4_ h5_ h6_ h7_
                 have HO333 := n0_
                 have BK318 := n1_
                 have BK334 := n2_
                 have GW334 := n3_
                 have GE334 := n4_
                 have NB318_334 := n5_
                 have NB334_318 := n6_
                 have HB := n7_
                 clear n0_ n1_ n2_ n3_ n4_ n5_ n6_ n7_
                 have hHeld : w75.cell? ad322 = some (.int .u8 (rd l0 0)) ∧ w75.cell? ⟨ad322.block, ad322.off + 1, none⟩ = some (.int .u8 (rd l0 1)) ∧ w75.cell? ⟨ad322.block, ad322.off + 2, none⟩ = some (.int .u8 (rd l0 2)) ∧ w75.cell? ⟨ad322.block, ad322.off + 3, none⟩ = some (.int .u8 (rd l0 3)) ∧ w75.cell? ⟨ad322.block, ad322.off + 4, none⟩ = some (.int .u8 (rd l0 4)) ∧ w75.cell? ⟨ad322.block, ad322.off + 5, none⟩ = some (.int .u8 (rd l0 5)) := hS_
                 obtain ⟨Ao76, co76, eo76⟩ := Kd.R_slice HO333.out
                 (first | subst eo76 | (injection eo76 with f1_ f2_ f3_; have f4_ := f1_.symm; have f5_ := f3_.symm; clear f1_ f2_ f3_; subst f4_; subst f5_))
                 refine norm_ (a' := ?_) ?_ ?_
                 rotate_left
                 ·simp only [putAll, Act.put, List.setIfInBounds_toArray, List.set_cons_zero, List.set_cons_succ]
                  rfl
                 refine one_ (i := 34) (N := none) (bu 35 35) rfl rfl (one_of HT_.out (by kernel_rfl)) (by decide) (fun K hK => ?_)
                 have hs77 : w75.cell? ⟨gb334, 0, none⟩ = some (.int .i64 0) := (blk_cell BK334.out 0).trans rfl
                 have hfs77 := blk_frozen BK334.out 0
                 have hns77_0 := NB318_334.out
                 have hms77_0 := NB334_318.out
                 have hs78 : w75.cell? ⟨gb334, 1, none⟩ = some (.int .i64 0) := (blk_cell BK334.out 1).trans rfl
                 have hfs78 := blk_frozen BK334.out 1
                 have hns78_0 := NB318_334.out
                 have hms78_0 := NB334_318.out
                 have hs79 : w75.cell? ⟨gb334, 2, none⟩ = some (.int .i64 0) := (blk_cell BK334.out 2).trans rfl
                 have hfs79 := blk_frozen BK334.out 2
                 have hns79_0 := NB318_334.out
                 have hms79_0 := NB334_318.out
                 have hs80 : w75.cell? ⟨gb334, 3, none⟩ = some (.int .i64 0) := (blk_cell BK334.out 3).trans rfl
                 have hfs80 := blk_frozen BK334.out 3
                 have hns80_0 := NB318_334.out
                 have hms80_0 := NB334_318.out
                 have hs81 : w75.cell? ⟨gb334, 4, none⟩ = some (.slice none 0 0) := (blk_cell BK334.out 4).trans rfl
                 have hfs81 := blk_frozen BK334.out 4
                 have hns81_0 := NB318_334.out
                 have hms81_0 := NB334_318.out
                 refine skip_ (w1 := ?_) (by rfl) rfl ?_ ?_
                 rotate_left
                 ·go_simp
                  rfl
                 refine hK.out _ _ ⟨((cell_far (p := ⟨gb334, _, none⟩) (neX hw324_0 GW334.out) _).trans (((cell_far (p := ⟨gb334, _, none⟩) (neX hw324_0 GW334.out) _).trans (((cell_far (p := ⟨gb334, _, none⟩) (neX hw324_0 GW334.out) _).trans (((cell_far (p := ⟨gb334, _, none⟩) (neX hw324_0 GW334.out) _).trans (((cell_far (p := ⟨gb334, _, none⟩) (neX hw324_0 GW334.out) _).trans (hHeld.1)))))))))), ((cell_far (p := ⟨gb334, _, none⟩) (neX hw325_0 GW334.out) _).trans (((cell_far (p := ⟨gb334, _, none⟩) (neX hw325_0 GW334.out) _).trans (((cell_far (p := ⟨gb334, _, none⟩) (neX hw325_0 GW334.out) _).trans (((cell_far (p := ⟨gb334, _, none⟩) (neX hw325_0 GW334.out) _).trans (((cell_far (p := ⟨gb334, _, none⟩) (neX hw325_0 GW334.out) _).trans (hHeld.2.1)))))))))), ((cell_far (p := ⟨gb334, _, none⟩) (neX hw326_0 GW334.out) _).trans (((cell_far (p := ⟨gb334, _, none⟩) (neX hw326_0 GW334.out) _).trans (((cell_far (p := ⟨gb334, _, none⟩) (neX hw326_0 GW334.out) _).trans (((cell_far (p := ⟨gb334, _, none⟩) (neX hw326_0 GW334.out) _).trans (((cell_far (p := ⟨gb334, _, none⟩) (neX hw326_0 GW334.out) _).trans (hHeld.2.2.1)))))))))), ((cell_far (p := ⟨gb334, _, none⟩) (neX hw327_0 GW334.out) _).trans (((cell_far (p := ⟨gb334, _, none⟩) (neX hw327_0 GW334.out) _).trans (((cell_far (p := ⟨gb334, _, none⟩) (neX hw327_0 GW334.out) _).trans (((cell_far (p := ⟨gb334, _, none⟩) (neX hw327_0 GW334.out) _).trans (((cell_far (p := ⟨gb334, _, none⟩) (neX hw327_0 GW334.out) _).trans (hHeld.2.2.2.1)))))))))), ((cell_far (p := ⟨gb334, _, none⟩) (neX hw328_0 GW334.out) _).trans (((cell_far (p := ⟨gb334, _, none⟩) (neX hw328_0 GW334.out) _).trans (((cell_far (p := ⟨gb334, _, none⟩) (neX hw328_0 GW334.out) _).trans (((cell_far (p := ⟨gb334, _, none⟩) (neX hw328_0 GW334.out) _).trans (((cell_far (p := ⟨gb334, _, none⟩) (neX hw328_0 GW334.out) _).trans (hHeld.2.2.2.2.1)))))))))), ((cell_far (p := ⟨gb334, _, none⟩) (neX hw329_0 GW334.out) _).trans (((cell_far (p := ⟨gb334, _, none⟩) (neX hw329_0 GW334.out) _).trans (((cell_far (p := ⟨gb334, _, none⟩) (neX hw329_0 GW334.out) _).trans (((cell_far (p := ⟨gb334, _, none⟩) (neX hw329_0 GW334.out) _).trans (((cell_far (p := ⟨gb334, _, none⟩) (neX hw329_0 GW334.out) _).trans (hHeld.2.2.2.2.2))))))))))⟩ (fun hHeld => ?_)
                 clear hK K
                 refine done_ (done_of HT_.out (by kernel_rfl)) ?_
                 try go_wp2
                 have n0_ : Aside0 (Kd.R (Kd.int .u8) 5 (((((w75.setCell ⟨gb334, 0, none⟩ (.int .i64 (wrap64 (rd l0 0)))).setCell ⟨gb334, 1, none⟩ (.int .i64 (Go.bits .or .i64 (wrap64 ((wrap64 (rd l0 1)) * 256)) (wrap64 (rd l0 2))))).setCell ⟨gb334, 2, none⟩ (.int .i64 (Go.bits .or .i64 (wrap64 ((wrap64 (rd l0 3)) * 256)) (wrap64 (rd l0 4))))).setCell ⟨gb334, 3, none⟩ (.int .i64 (wrap64 (rd l0 5)))).setCell ⟨gb334, 4, none⟩ (.slice Ao76 t331.length co76)) w.heap.size (fun _ => True) (.slice Ao76 t331.length co76) t331) := ⟨by (with_reducible repeat (first | apply R1 | apply R2 | apply R3)); exact Kd.R_mono (Kd.R_far (p := ⟨gb334, 4, none⟩) (Kd.R_far (p := ⟨gb334, 3, none⟩) (Kd.R_far (p := ⟨gb334, 2, none⟩) (Kd.R_far (p := ⟨gb334, 1, none⟩) (Kd.R_far (p := ⟨gb334, 0, none⟩) (Kd.R_types HO333.out BK334.out (by decide)) (fun _ hk => hk.2) (.int .i64 (wrap64 (rd l0 0)))) (fun _ hk => hk.2) (.int .i64 (Go.bits .or .i64 (wrap64 ((wrap64 (rd l0 1)) * 256)) (wrap64 (rd l0 2))))) (fun _ hk => hk.2) (.int .i64 (Go.bits .or .i64 (wrap64 ((wrap64 (rd l0 3)) * 256)) (wrap64 (rd l0 4))))) (fun _ hk => hk.2) (.int .i64 (wrap64 (rd l0 5)))) (fun _ hk => hk.2) (.slice Ao76 t331.length co76)) (fun _ hk => trivial)⟩
                 have n1_ : Aside0 ((((((w75.setCell ⟨gb334, 0, none⟩ (.int .i64 (wrap64 (rd l0 0)))).setCell ⟨gb334, 1, none⟩ (.int .i64 (Go.bits .or .i64 (wrap64 ((wrap64 (rd l0 1)) * 256)) (wrap64 (rd l0 2))))).setCell ⟨gb334, 2, none⟩ (.int .i64 (Go.bits .or .i64 (wrap64 ((wrap64 (rd l0 3)) * 256)) (wrap64 (rd l0 4))))).setCell ⟨gb334, 3, none⟩ (.int .i64 (wrap64 (rd l0 5)))).setCell ⟨gb334, 4, none⟩ (.slice Ao76 t331.length co76)).heap[gb318]? = some (.cells #[.int .i64 0, .int .i64 0, .int .i64 0, .int .i64 0, .slice none 0 0] 24 (0, 0))) := ⟨by (with_reducible repeat (first | refine k2 ?_ _ | refine k3 ?_ | refine k1 ?_ _)); refine blk_far ?_ NB318_334.out _; (with_reducible repeat (first | refine k2 ?_ _ | refine k3 ?_ | refine k1 ?_ _)); refine blk_far ?_ NB318_334.out _; (with_reducible repeat (first | refine k2 ?_ _ | refine k3 ?_ | refine k1 ?_ _)); refine blk_far ?_ NB318_334.out _; (with_reducible repeat (first | refine k2 ?_ _ | refine k3 ?_ | refine k1 ?_ _)); refine blk_far ?_ NB318_334.out _; (with_reducible repeat (first | refine k2 ?_ _ | refine k3 ?_ | refine k1 ?_ _)); refine blk_far ?_ NB318_334.out _; (with_reducible repeat (first | refine k2 ?_ _ | refine k3 ?_ | refine k1 ?_ _)); exact BK318.out⟩
                 have n2_ : Aside0 ((((((w75.setCell ⟨gb334, 0, none⟩ (.int .i64 (wrap64 (rd l0 0)))).setCell ⟨gb334, 1, none⟩ (.int .i64 (Go.bits .or .i64 (wrap64 ((wrap64 (rd l0 1)) * 256)) (wrap64 (rd l0 2))))).setCell ⟨gb334, 2, none⟩ (.int .i64 (Go.bits .or .i64 (wrap64 ((wrap64 (rd l0 3)) * 256)) (wrap64 (rd l0 4))))).setCell ⟨gb334, 3, none⟩ (.int .i64 (wrap64 (rd l0 5)))).setCell ⟨gb334, 4, none⟩ (.slice Ao76 t331.length co76)).heap[gb334]? = some (.cells #[.int .i64 (wrap64 (rd l0 0)), .int .i64 (Go.bits .or .i64 (wrap64 ((wrap64 (rd l0 1)) * 256)) (wrap64 (rd l0 2))), .int .i64 (Go.bits .or .i64 (wrap64 ((wrap64 (rd l0 3)) * 256)) (wrap64 (rd l0 4))), .int .i64 (wrap64 (rd l0 5)), .slice Ao76 t331.length co76] 24 (0, 0))) := ⟨by (with_reducible repeat (first | refine k2 ?_ _ | refine k3 ?_ | refine k1 ?_ _)); refine blk_put (cs := #[.int .i64 (wrap64 (rd l0 0)), .int .i64 (Go.bits .or .i64 (wrap64 ((wrap64 (rd l0 1)) * 256)) (wrap64 (rd l0 2))), .int .i64 (Go.bits .or .i64 (wrap64 ((wrap64 (rd l0 3)) * 256)) (wrap64 (rd l0 4))), .int .i64 (wrap64 (rd l0 5)), .slice none 0 0]) ?_ 4 _ rfl; (with_reducible repeat (first | refine k2 ?_ _ | refine k3 ?_ | refine k1 ?_ _)); refine blk_put (cs := #[.int .i64 (wrap64 (rd l0 0)), .int .i64 (Go.bits .or .i64 (wrap64 ((wrap64 (rd l0 1)) * 256)) (wrap64 (rd l0 2))), .int .i64 (Go.bits .or .i64 (wrap64 ((wrap64 (rd l0 3)) * 256)) (wrap64 (rd l0 4))), .int .i64 0, .slice none 0 0]) ?_ 3 _ rfl; (with_reducible repeat (first | refine k2 ?_ _ | refine k3 ?_ | refine k1 ?_ _)); refine blk_put (cs := #[.int .i64 (wrap64 (rd l0 0)), .int .i64 (Go.bits .or .i64 (wrap64 ((wrap64 (rd l0 1)) * 256)) (wrap64 (rd l0 2))), .int .i64 0, .int .i64 0, .slice none 0 0]) ?_ 2 _ rfl; (with_reducible repeat (first | refine k2 ?_ _ | refine k3 ?_ | refine k1 ?_ _)); refine blk_put (cs := #[.int .i64 (wrap64 (rd l0 0)), .int .i64 0, .int .i64 0, .int .i64 0, .slice none 0 0]) ?_ 1 _ rfl; (with_reducible repeat (first | refine k2 ?_ _ | refine k3 ?_ | refine k1 ?_ _)); refine blk_put (cs := #[.int .i64 0, .int .i64 0, .int .i64 0, .int .i64 0, .slice none 0 0]) ?_ 0 _ rfl; (with_reducible repeat (first | refine k2 ?_ _ | refine k3 ?_ | refine k1 ?_ _)); exact BK334.out⟩
                 have n3_ : Aside0 (Below w.heap.size w (((((w75.setCell ⟨gb334, 0, none⟩ (.int .i64 (wrap64 (rd l0 0)))).setCell ⟨gb334, 1, none⟩ (.int .i64 (Go.bits .or .i64 (wrap64 ((wrap64 (rd l0 1)) * 256)) (wrap64 (rd l0 2))))).setCell ⟨gb334, 2, none⟩ (.int .i64 (Go.bits .or .i64 (wrap64 ((wrap64 (rd l0 3)) * 256)) (wrap64 (rd l0 4))))).setCell ⟨gb334, 3, none⟩ (.int .i64 (wrap64 (rd l0 5)))).setCell ⟨gb334, 4, none⟩ (.slice Ao76 t331.length co76))) := ⟨by repeat (first | (with_reducible first | exact HB.out | apply b1 | apply b2 | apply b3 | refine below_set ?_ GE318.out | refine below_set ?_ GE334.out) | exact HB.out)⟩
                 (try clear HO333)
                 (try clear BK318)
                 (try clear BK334)
                 (try clear HB)
                 generalize (((((w75.setCell ⟨gb334, 0, none⟩ (.int .i64 (wrap64 (rd l0 0)))).setCell ⟨gb334, 1, none⟩ (.int .i64 (Go.bits .or .i64 (wrap64 ((wrap64 (rd l0 1)) * 256)) (wrap64 (rd l0 2))))).setCell ⟨gb334, 2, none⟩ (.int .i64 (Go.bits .or .i64 (wrap64 ((wrap64 (rd l0 3)) * 256)) (wrap64 (rd l0 4))))).setCell ⟨gb334, 3, none⟩ (.int .i64 (wrap64 (rd l0 5)))).setCell ⟨gb334, 4, none⟩ (.slice Ao76 t331.length co76)) = w82 at n0_ n1_ n2_ n3_ ⊢
                 have HO333 := n0_
                 have BK318 := n1_
                 have BK334 := n2_
                 have HB := n3_
                 clear n0_ n1_ n2_ n3_
                 have n0_ := Aside0.mk (Kd.R_drew HO333.out)
                 have n1_ := Aside0.mk (blk_drew BK318.out)
                 have n2_ := Aside0.mk (blk_drew BK334.out)
                 have n3_ := Aside0.mk (below_drew1 HB.out)
                 clear HO333
                 clear BK318
                 clear BK334
                 clear HB
                 have HO333 := n0_
                 have BK318 := n1_
                 have BK334 := n2_
                 have HB := n3_
                 clear n0_ n1_ n2_ n3_
                 have p335 : 0 ≤ (6 : Int) := (by omega)
                 have q335 : 6 < (l0.length : Int) := of_decide_eq_true (by first | (with_reducible assumption) | assumption)
                 obtain ⟨ad335, e335, hx335_0⟩ := Kd.at_int HR0.out 6 p335 q335
                 have hw335_0 := hx335_0
                 (try rw [show ((6 : Int)).toNat = 6 from rfl] at hw335_0)
                 (try rw [show 6 * 1 = 6 from rfl] at hw335_0)
                 (try simp only [Nat.reduceMul, Nat.reduceEqDiff, Go.Addr.add, ↓reduceIte] at hw335_0)
                 obtain rfl : ad322 = ad335 := (by injection e335)
                 (try simp only [show (6 : Int).toNat = 6 from rfl, Nat.reduceMul, Nat.reduceEqDiff, Go.Addr.add, ↓reduceIte] at hx335_0)
                 have qi335 : (6 < l0.length) = True := eq_true (by omega)
                 (try rw [show ((6 : Int)).toNat = 6 from rfl] at hx335_0)
                 replace hx335_0 := (HB.out.cell (World.block_lt_of_cell? w _ hx335_0)).trans hx335_0
                 replace p335 := eq_true p335
                 replace q335 := eq_true q335
                 refine start_ (n := 13) (S := fun w' => w'.cell? ⟨gb334, 0, none⟩ = some (.int .i64 (wrap64 (rd l0 0))) ∧ w'.cell? ⟨gb334, 1, none⟩ = some (.int .i64 (Go.bits .or .i64 (wrap64 ((wrap64 (rd l0 1)) * 256)) (wrap64 (rd l0 2)))) ∧ w'.cell? ⟨gb334, 2, none⟩ = some (.int .i64 (Go.bits .or .i64 (wrap64 ((wrap64 (rd l0 3)) * 256)) (wrap64 (rd l0 4)))) ∧ w'.cell? ⟨gb334, 3, none⟩ = some (.int .i64 (wrap64 (rd l0 5))) ∧ w'.cell? ⟨gb334, 4, none⟩ = some (.slice Ao76 t331.length co76) ∧ w'.cell? ⟨ad322.block, ad322.off + 6, none⟩ = some (.int .u8 (rd l0 6))) (ds := []) (bu 13 0) (by kernel_rfl) rfl rfl ⟨(blk_cell BK334.out 0).trans rfl, (blk_cell BK334.out 1).trans rfl, (blk_cell BK334.out 2).trans rfl, (blk_cell BK334.out 3).trans rfl, (blk_cell BK334.out 4).trans rfl, ((HB.out.cell (World.block_lt_of_cell? w _ hw335_0)).trans hw335_0)⟩ (fun hHeld => ?_); refine with_tabW wherryref18_ReadFrame.tab7 wherryref18_ReadFrame.bits7 (fun HT_ HW_ => ?_)
                 generalize w82.drew = w83 at HO333 BK318 BK334 HB hx335_0 hHeld ⊢
                 refine pA 0 66 (bu 13 1) ?_ HT_ rfl rfl (.inl ⟨by rfl, ?_⟩) ?_ ?_ ?_; rotate_left; (focus intro w'; go_simp; with_reducible rfl); rotate_left; (focus simp only [pk]; rfl)
                 refine pA 1 67 (bu 13 2) ?_ HT_ rfl rfl (.inl ⟨by rfl, ?_⟩) ?_ ?_ ?_; rotate_left; (focus intro w'; go_simp; with_reducible rfl); rotate_left; (focus simp only [pk]; rfl)
                 refine pA 4 70 (bm 13 0x13) ?_ HT_ rfl rfl (.inl ⟨by rfl, ?_⟩) ?_ ?_ ?_; rotate_left; (focus intro w'; go_simp; with_reducible rfl); rotate_left; (focus simp only [pk]; rfl)
                 refine tA 2 68 (bm 13 0x17) ?_ HT_ HW_ rfl rfl (.inl ⟨by rfl, ?_⟩) hHeld ?_ ?_ ?_; rotate_left; (focus rintro w' ⟨s0, s1, s2, s3, s4, s5⟩; go_simp; with_reducible rfl); rotate_left; (focus simp only [pk]; rfl)
                 refine pA 3 69 (bu 13 5) ?_ HT_ rfl rfl (.inl ⟨by rfl, ?_⟩) ?_ ?_ ?_; rotate_left; (focus intro w'; go_simp; with_reducible rfl); rotate_left; (focus simp only [pk]; rfl)
                 refine tA 5 71 (bu 13 6) ?_ HT_ HW_ rfl rfl (.inl ⟨by rfl, ?_⟩) hHeld ?_ ?_ ?_; rotate_left; (focus rintro w' ⟨s0, s1, s2, s3, s4, s5⟩; go_simp; with_reducible rfl); rotate_left; (focus simp only [pk]; rfl)
                 refine pA 6 72 (bu 13 7) ?_ HT_ rfl rfl (.inl ⟨by rfl, ?_⟩) ?_ ?_ ?_; rotate_left; (focus intro w'; go_simp; with_reducible rfl); rotate_left; (focus simp only [pk]; rfl)
                 refine pA 7 73 (bu 13 8) ?_ HT_ rfl rfl (.inl ⟨by rfl, ?_⟩) ?_ ?_ ?_; rotate_left; (focus intro w'; go_simp; with_reducible rfl); rotate_left; (focus simp only [pk]; rfl)
                 refine pA 8 74 (bu 13 9) ?_ HT_ rfl rfl (.inl ⟨by rfl, ?_⟩) ?_ ?_ ?_; rotate_left; (focus intro w'; go_simp; with_reducible rfl); rotate_left; (focus simp only [pk]; rfl)
                 refine pU 9 75 (bu 13 10) HT_ ?_ ?_ ?_; rotate_left; (focus simp only [pk]; rfl)
                 refine pU 10 76 (bu 13 11) HT_ ?_ ?_ ?_; rotate_left; (focus simp only [pk]; rfl)
                 refine pU 11 77 (bu 13 12) HT_ ?_ ?_ ?_; rotate_left; (focus simp only [pk]; rfl)
                 refine pA 12 78 (bu 13 13) ?_ HT_ rfl rfl (.inl ⟨by rfl, ?_⟩) ?_ ?_ ?_; rotate_left; (focus intro w'; go_simp; with_reducible rfl); rotate_left; (focus simp only [pk]; rfl)
                 refine done_ (done_of HT_.out (by kernel_rfl)) ?_
                 have hnb84 := NB318_334.out
                 have hnc84 := NB334_318.out
                 have hcz85_0 : w83.cell? ⟨gb318, 0, none⟩ = some (.int .i64 0) := (blk_cell BK318.out 0).trans rfl
                 have hcz85_1 : w83.cell? ⟨gb318, 1, none⟩ = some (.int .i64 0) := (blk_cell BK318.out 1).trans rfl
                 have hcz85_2 : w83.cell? ⟨gb318, 2, none⟩ = some (.int .i64 0) := (blk_cell BK318.out 2).trans rfl
                 have hcz85_3 : w83.cell? ⟨gb318, 3, none⟩ = some (.int .i64 0) := (blk_cell BK318.out 3).trans rfl
                 have hcz85_4 : w83.cell? ⟨gb318, 4, none⟩ = some (.slice none 0 0) := (blk_cell BK318.out 4).trans rfl
                 have hfz85_0 := blk_frozen BK318.out 0
                 have hfz85_1 := blk_frozen BK318.out 1
                 have hfz85_2 := blk_frozen BK318.out 2
                 have hfz85_3 := blk_frozen BK318.out 3
                 have hfz85_4 := blk_frozen BK318.out 4
                 try go_wp2
                 refine bodyPost_ret (results_ct rfl _ _ gb318 24 #[.int .i64 0, .int .i64 0, .int .i64 0, .int .i64 0, .slice none 0 0] (0, 0) _ rfl (by (with_reducible repeat (first | refine k2 ?_ _ | refine k3 ?_ | refine k1 ?_ _)); refine blk_put (cs := #[.int .i64 0, .int .i64 0, .int .i64 0, .int .i64 0, .slice none 0 0]) ?_ 4 _ rfl; (with_reducible repeat (first | refine k2 ?_ _ | refine k3 ?_ | refine k1 ?_ _)); refine blk_put (cs := #[.int .i64 0, .int .i64 0, .int .i64 0, .int .i64 0, .slice none 0 0]) ?_ 3 _ rfl; (with_reducible repeat (first | refine k2 ?_ _ | refine k3 ?_ | refine k1 ?_ _)); refine blk_put (cs := #[.int .i64 0, .int .i64 0, .int .i64 0, .int .i64 0, .slice none 0 0]) ?_ 2 _ rfl; (with_reducible repeat (first | refine k2 ?_ _ | refine k3 ?_ | refine k1 ?_ _)); refine blk_put (cs := #[.int .i64 0, .int .i64 0, .int .i64 0, .int .i64 0, .slice none 0 0]) ?_ 1 _ rfl; (with_reducible repeat (first | refine k2 ?_ _ | refine k3 ?_ | refine k1 ?_ _)); refine blk_put (cs := #[.int .i64 0, .int .i64 0, .int .i64 0, .int .i64 0, .slice none 0 0]) ?_ 0 _ rfl; (with_reducible repeat (first | refine k2 ?_ _ | refine k3 ?_ | refine k1 ?_ _)); exact BK318.out) Try.underlying24 rfl (by kernel_rfl)) rfl ?_
                 exact ⟨_, by first | rfl | (simp [errW_none, errW_some] <;> rfl) | (simp only [← hji4, ← hji9]; first | rfl | (simp [errW_none, errW_some] <;> rfl)) | (simp [*, errW_none, errW_some] <;> rfl), by first | exact Kd.R_nil _ _ _ _ _ | exact Kd.N_nil _ _ _ _ _ | exact Kd.V_nil _ _ _ _ _ | exact Kd.Q_nil _ _ _ _ _ | exact Kd.S_nil _ _ _ _ _, by repeat (first | (with_reducible first | exact HB.out | apply b1 | apply b2 | apply b3 | refine below_set ?_ GE318.out | refine below_set ?_ GE334.out) | exact HB.out)⟩
               ·rw [if_neg c22] at H
                exact absurd H (by simp)
              ·rw [if_neg c19] at H
               exact absurd H (by simp)
             ·rw [if_neg c18] at H
              exact absurd H (by simp)
            ·rw [if_neg c17] at H
             exact absurd H (by simp)
           ·rw [if_neg c16] at H
            exact absurd H (by simp)
          ·rw [if_neg c15] at H
           exact absurd H (by simp)
         ·rw [if_neg c14] at H
          exact absurd H (by simp)
        ·rw [if_neg c13] at H
         exact absurd H (by simp)
       ·rw [if_neg c12] at H
        have c12b0 : (t321 == (Go.bits .or .i64 (wrap64 (rd l0 (ji4))) (wrap64 ((wrap64 (rd l0 (ji9))) * 256)))) = false := beq_eq_false_iff_ne.mpr c12
        have c12b1 : (t321 != (Go.bits .or .i64 (wrap64 (rd l0 (ji4))) (wrap64 ((wrap64 (rd l0 (ji9))) * 256)))) = true := bne_iff_ne.mpr c12
        simp only [Option.some.injEq, Prod.mk.injEq] at H
        obtain ⟨rfl, rfl, rfl, rfl, rfl, rfl⟩ := H
        go_enter Try.func19, Try.ntmps19
        try go_wp2_with (first | ((with_reducible refine gate_dst (N := 2) rfl ?_); refine box_event ?hg (N := 2) ?hd (cs := #[.int .i64 0, .int .i64 0, .int .i64 0, .int .i64 0, .slice none 0 0]) (t := 24) ?hr ?_; (case hd => rfl); (case hg => rfl); (case hr => first | (go_simp; done) | (go_simp; rfl)); intro gb318 hg w86 hbox hb; have n0_ := Aside0.mk (below_step (by first | with_reducible exact HB.out | exact sB HB.out) hb); have n1_ := Aside0.mk (hbox); have n2_ := Aside0.mk ((by rw [hg]; exact (below_size (by first | with_reducible exact HB.out | exact sB HB.out)) : w.heap.size ≤ gb318)); have n3_ := Aside0.mk ((by rw [hg]; exact (below_size (by first | with_reducible exact HB.out | exact sB HB.out)) : w.heap.size ≤ gb318)); clear HB; have HB := n0_; have BK318 := n1_; have GW318 := n2_; have GE318 := n3_; clear n0_ n1_ n2_ n3_; clear hb hbox hg) | ((with_reducible refine gate_callee (f := 28) rfl ?_); refine goesL_ (some 8) rfl rfl Try.func28 (by kernel_rfl) rfl #[.int .i64 (l0.length : Int), .int .i64 9, .int .i64 57] rfl (by (try simp only [List.map_toArray, List.map_cons, List.map_nil]); first | done | rfl | (simp only [List.length_drop, List.length_take]; rfl) | (go_simp; done) | (go_simp; rfl)) ?_; (with_reducible refine (wherryref18_in.calls (l0.length : Int) 9 57 true _ A2.out).mono ?_); rintro e w' ⟨rfl, ⟨nd, rfl⟩⟩; refine ⟨_, rfl, ?_⟩; (try (rw [drewN_self w86]; generalize hq_ : World.drewN w86 _ = w86; have n0_ : Aside0 (w86.heap[gb318]? = some (.cells #[.int .i64 0, .int .i64 0, .int .i64 0, .int .i64 0, .slice none 0 0] 24 (0, 0))) := ⟨by rw [← hq_]; exact (by first | with_reducible exact BK318.out | exact sK BK318.out)⟩; have n1_ : Aside0 (Below w.heap.size w w86) := ⟨by rw [← hq_]; exact (by repeat (first | (with_reducible first | exact HB.out | apply b1 | apply b2 | apply b3 | refine below_set ?_ GE318.out) | exact HB.out))⟩; clear BK318 HB hq_; have BK318 := n0_; have HB := n1_; clear n0_ n1_))))
        have n0_ := Aside0.mk (blk_drew BK318.out)
        have n1_ := Aside0.mk (below_drew1 HB.out)
        clear BK318
        clear HB
        have BK318 := n0_
        have HB := n1_
        clear n0_ n1_
        obtain ⟨i088, hi088, _, hsz88, _⟩ := info_parts info5
        obtain ⟨hcut88, hA88, hC88⟩ := print_take_of (P := Try.prog) (Value.int .u8) 0 22 5 .i64 Try.underlying22 hi088 hsz88 A0 c0 l0 (ji4) (of_decide_eq_true (by first | (with_reducible assumption) | assumption)) (of_decide_eq_true (by first | (with_reducible assumption) | assumption)) HC0.out
        have HR320 := Aside0.mk (Kd.C_of_reads (h1 := fun _ => rfl) (hA88 _ (Kd.reads_of_C HR0.out)))
        have HC320 := Aside0.mk hC88
        clear hA88 hC88 hi088 hsz88
        have p322 : 0 ≤ ((ji4) : Int) := of_decide_eq_true (by first | (with_reducible assumption) | assumption)
        have q322 : (ji4) < (l0.length : Int) := of_decide_eq_true (by first | (with_reducible assumption) | assumption)
        obtain ⟨ad322, e322, hx322_0⟩ := Kd.at_int HR0.out (ji4) p322 q322
        have hw322_0 := hx322_0
        cases e322
        replace hx322_0 := (HB.out.cell (World.block_lt_of_cell? w _ hx322_0)).trans hx322_0
        replace p322 := eq_true p322
        replace q322 := eq_true q322
        have p323 : 0 ≤ ((ji9) : Int) := of_decide_eq_true (by first | (with_reducible assumption) | assumption)
        have q323 : (ji9) < (l0.length : Int) := of_decide_eq_true (by first | (with_reducible assumption) | assumption)
        obtain ⟨ad323, e323, hx323_0⟩ := Kd.at_int HR0.out (ji9) p323 q323
        have hw323_0 := hx323_0
        obtain rfl : ad322 = ad323 := (by injection e323)
        replace hx323_0 := (HB.out.cell (World.block_lt_of_cell? w _ hx323_0)).trans hx323_0
        replace p323 := eq_true p323
        replace q323 := eq_true q323
        refine start_ (n := 18) (S := fun w' => w'.cell? (ad322.add ((ji4)).toNat) = some (.int .u8 (rd l0 (ji4))) ∧ w'.cell? (ad322.add ((ji9)).toNat) = some (.int .u8 (rd l0 (ji9)))) (ds := []) (bu 18 0) (by kernel_rfl) rfl rfl ⟨((HB.out.cell (World.block_lt_of_cell? w _ hw322_0)).trans hw322_0), ((HB.out.cell (World.block_lt_of_cell? w _ hw323_0)).trans hw323_0)⟩ (fun hHeld => ?_); refine with_tabW wherryref18_ReadFrame.tab4 wherryref18_ReadFrame.bits4 (fun HT_ HW_ => ?_)
        generalize w86.drew = w87 at BK318 HB HR320 hx322_0 hx323_0 hHeld ⊢
        refine pA 0 14 (bu 18 1) ?_ HT_ rfl rfl (.inl ⟨by rfl, ?_⟩) ?_ ?_ ?_; rotate_left; (focus intro w'; go_simp; with_reducible rfl); rotate_left; (focus simp only [pk]; rfl)
        refine pA 1 15 (bu 18 2) ?_ HT_ rfl rfl (.inl ⟨by rfl, ?_⟩) ?_ ?_ ?_; rotate_left; (focus intro w'; go_simp; with_reducible rfl); rotate_left; (focus simp only [pk]; rfl)
        refine pA 2 16 (bu 18 3) ?_ HT_ rfl rfl (.inl ⟨by rfl, ?_⟩) ?_ ?_ ?_; rotate_left; (focus intro w'; go_simp; with_reducible rfl); rotate_left; (focus simp only [pk]; rfl)
        refine pA 4 18 (bm 18 0x17) ?_ HT_ rfl rfl (.inl ⟨by rfl, ?_⟩) ?_ ?_ ?_; rotate_left; (focus intro w'; go_simp; with_reducible rfl); rotate_left; (focus simp only [pk]; rfl)
        refine pA 5 19 (bm 18 0x37) ?_ HT_ rfl rfl (.inl ⟨by rfl, ?_⟩) ?_ ?_ ?_; rotate_left; (focus intro w'; go_simp; with_reducible rfl); rotate_left; (focus simp only [pk]; rfl)
        refine pA 6 20 (bm 18 0x77) ?_ HT_ rfl rfl (.inl ⟨by rfl, ?_⟩) ?_ ?_ ?_; rotate_left; (focus intro w'; go_simp; with_reducible rfl); rotate_left; (focus simp only [pk]; rfl)
        refine pA 9 23 (bm 18 0x277) ?_ HT_ rfl rfl (.inl ⟨by rfl, ?_⟩) ?_ ?_ ?_; rotate_left; (focus intro w'; go_simp; with_reducible rfl); rotate_left; (focus simp only [pk]; rfl)
        refine pA 10 24 (bm 18 0x677) ?_ HT_ rfl rfl (.inl ⟨by rfl, ?_⟩) ?_ ?_ ?_; rotate_left; (focus intro w'; go_simp; with_reducible rfl); rotate_left; (focus simp only [pk]; rfl)
        refine pA 11 25 (bm 18 0xe77) ?_ HT_ rfl rfl (.inl ⟨by rfl, ?_⟩) ?_ ?_ ?_; rotate_left; (focus intro w'; go_simp; with_reducible rfl); rotate_left; (focus simp only [pk]; rfl)
        refine pA 12 26 (bm 18 0x1e77) ?_ HT_ rfl rfl (.inl ⟨by rfl, ?_⟩) ?_ ?_ ?_; rotate_left; (focus intro w'; go_simp; with_reducible rfl); rotate_left; (focus simp only [pk]; rfl)
        refine tA 7 21 (bm 18 0x1ef7) ?_ HT_ HW_ rfl rfl (.inl ⟨by rfl, ?_⟩) hHeld ?_ ?_ ?_; rotate_left; (focus rintro w' ⟨s0, s1⟩; go_simp; with_reducible rfl); rotate_left; (focus simp only [pk]; rfl)
        refine pA 8 22 (bm 18 0x1ff7) ?_ HT_ rfl rfl (.inl ⟨by rfl, ?_⟩) ?_ ?_ ?_; rotate_left; (focus intro w'; go_simp; with_reducible rfl); rotate_left; (focus simp only [pk]; rfl)
        refine tA 13 27 (bm 18 0x3ff7) ?_ HT_ HW_ rfl rfl (.inl ⟨by rfl, ?_⟩) hHeld ?_ ?_ ?_; rotate_left; (focus rintro w' ⟨s0, s1⟩; go_simp; with_reducible rfl); rotate_left; (focus simp only [pk]; rfl)
        refine pA 14 28 (bm 18 0x7ff7) ?_ HT_ rfl rfl (.inl ⟨by rfl, ?_⟩) ?_ ?_ ?_; rotate_left; (focus intro w'; go_simp; with_reducible rfl); rotate_left; (focus simp only [pk]; rfl)
        refine pA 15 29 (bm 18 0xfff7) ?_ HT_ rfl rfl (.inl ⟨by rfl, ?_⟩) ?_ ?_ ?_; rotate_left; (focus intro w'; go_simp; with_reducible rfl); rotate_left; (focus simp only [pk]; rfl)
        refine pA 16 30 (bm 18 0x1fff7) ?_ HT_ rfl rfl (.inl ⟨by rfl, ?_⟩) ?_ ?_ ?_; rotate_left; (focus intro w'; go_simp; with_reducible rfl); rotate_left; (focus simp only [pk]; rfl)
        refine one_ (i := 3) (N := some 17) (bu 18 17) rfl rfl (one_of HT_.out (by kernel_rfl)) (by decide) (fun K hK => ?_)
        refine goes_ Try.func30 (by kernel_rfl) rfl #[.slice (some ad322) (l0.take ((ji4) : Int).toNat).length c0] (by rfl) rfl rfl (by (try simp only [List.map_toArray, List.map_cons, List.map_nil]); first | done | (rw [show (l0.take ((ji4) : Int).toNat).length = (ji4).toNat from (by rw [List.length_take]; have h_ : ((ji4) : Int) ≤ (l0.length : Int) := of_decide_eq_true (by first | (with_reducible assumption) | assumption); omega)] <;> rfl) | (simp only [hji4]; rfl) | rfl | (simp only [List.length_drop, List.length_take]; rfl) | (go_simp; done) | (go_simp; rfl)) ?_
        with_reducible refine (wherryref08_Short.calls k _ _ (l0.take ((ji4) : Int).toNat) t321 _ ?side1 ?side2 A7.out).mono ?_
        (case side1 => first | with_reducible exact (Kd.C_below HR320.out HB.out) | exact sC ((Kd.C_below HR320.out HB.out)))
        (case side2 => exact HC320.out)
        rintro e w' ⟨rfl, ⟨nd, rfl⟩⟩
        refine ⟨_, rfl, ?_⟩
        refine hK.out _ _ ⟨((HB.out.cell (World.block_lt_of_cell? w _ hw322_0)).trans hw322_0), ((HB.out.cell (World.block_lt_of_cell? w _ hw323_0)).trans hw323_0)⟩ (fun hHeld => ?_)
        clear hK K
        refine norm_ (a' := ?_) ?_ ?_
        rotate_left
        ·show Act.put _ (some 17) _ = _
         simp only [Act.put, List.setIfInBounds_toArray, List.set_cons_zero, List.set_cons_succ, i64_w, i32_w]
         rfl
        refine pA 17 31 (bu 18 18) ?_ HT_ rfl rfl (.inl ⟨by rfl, ?_⟩) ?_ ?_ ?_; rotate_left; (focus intro w'; go_simp; with_reducible rfl); rotate_left; (focus simp only [pk]; rfl)
        refine done_ (done_of HT_.out (by kernel_rfl)) ?_
        have hcz89_0 : w87.cell? ⟨gb318, 0, none⟩ = some (.int .i64 0) := (blk_cell BK318.out 0).trans rfl
        have hcz89_1 : w87.cell? ⟨gb318, 1, none⟩ = some (.int .i64 0) := (blk_cell BK318.out 1).trans rfl
        have hcz89_2 : w87.cell? ⟨gb318, 2, none⟩ = some (.int .i64 0) := (blk_cell BK318.out 2).trans rfl
        have hcz89_3 : w87.cell? ⟨gb318, 3, none⟩ = some (.int .i64 0) := (blk_cell BK318.out 3).trans rfl
        have hcz89_4 : w87.cell? ⟨gb318, 4, none⟩ = some (.slice none 0 0) := (blk_cell BK318.out 4).trans rfl
        have hfz89_0 := blk_frozen BK318.out 0
        have hfz89_1 := blk_frozen BK318.out 1
        have hfz89_2 := blk_frozen BK318.out 2
        have hfz89_3 := blk_frozen BK318.out 3
        have hfz89_4 := blk_frozen BK318.out 4
        try go_wp2
        refine bodyPost_ret (results_ct rfl _ _ gb318 24 #[.int .i64 0, .int .i64 0, .int .i64 0, .int .i64 0, .slice none 0 0] (0, 0) _ rfl (by (with_reducible repeat (first | refine k2 ?_ _ | refine k3 ?_ | refine k1 ?_ _)); refine blk_put (cs := #[.int .i64 0, .int .i64 0, .int .i64 0, .int .i64 0, .slice none 0 0]) ?_ 4 _ rfl; (with_reducible repeat (first | refine k2 ?_ _ | refine k3 ?_ | refine k1 ?_ _)); refine blk_put (cs := #[.int .i64 0, .int .i64 0, .int .i64 0, .int .i64 0, .slice none 0 0]) ?_ 3 _ rfl; (with_reducible repeat (first | refine k2 ?_ _ | refine k3 ?_ | refine k1 ?_ _)); refine blk_put (cs := #[.int .i64 0, .int .i64 0, .int .i64 0, .int .i64 0, .slice none 0 0]) ?_ 2 _ rfl; (with_reducible repeat (first | refine k2 ?_ _ | refine k3 ?_ | refine k1 ?_ _)); refine blk_put (cs := #[.int .i64 0, .int .i64 0, .int .i64 0, .int .i64 0, .slice none 0 0]) ?_ 1 _ rfl; (with_reducible repeat (first | refine k2 ?_ _ | refine k3 ?_ | refine k1 ?_ _)); refine blk_put (cs := #[.int .i64 0, .int .i64 0, .int .i64 0, .int .i64 0, .slice none 0 0]) ?_ 0 _ rfl; (with_reducible repeat (first | refine k2 ?_ _ | refine k3 ?_ | refine k1 ?_ _)); exact BK318.out) Try.underlying24 rfl (by kernel_rfl)) rfl ?_
        exact ⟨_, by first | rfl | (simp [errW_none, errW_some] <;> rfl) | (simp only [← hji4, ← hji9]; first | rfl | (simp [errW_none, errW_some] <;> rfl)) | (simp [*, errW_none, errW_some] <;> rfl), by first | exact Kd.R_nil _ _ _ _ _ | exact Kd.N_nil _ _ _ _ _ | exact Kd.V_nil _ _ _ _ _ | exact Kd.Q_nil _ _ _ _ _ | exact Kd.S_nil _ _ _ _ _, by repeat (first | (with_reducible first | exact HB.out | apply b1 | apply b2 | apply b3 | refine below_set ?_ GE318.out) | exact HB.out)⟩
      ·rw [if_neg c11] at H
       exact absurd H (by simp)
     ·rw [if_neg c10] at H
      exact absurd H (by simp)
    ·rw [if_neg c8] at H
     exact absurd H (by simp)
   ·rw [if_neg c6] at H
    exact absurd H (by simp)
  ·rw [if_neg c5] at H
   exact absurd H (by simp)
 ·replace c3 := Bool.eq_false_iff.mpr c3
  subst c3
  have H1 : (some (0, 0, 0, 0, ([] : List Int), 3)) = some (r1, r2, r3, r4, r5, r6) := by rw [if_neg (show ¬ (false = true) by decide)] at H; exact H
  clear H
  have H := H1
  clear H1
  simp only [Option.some.injEq, Prod.mk.injEq] at H
  obtain ⟨rfl, rfl, rfl, rfl, rfl, rfl⟩ := H
  go_enter Try.func19, Try.ntmps19
  go_wp2_with (first | ((with_reducible refine gate_dst (N := 2) rfl ?_); refine box_event ?hg (N := 2) ?hd (cs := #[.int .i64 0, .int .i64 0, .int .i64 0, .int .i64 0, .slice none 0 0]) (t := 24) ?hr ?_; (case hd => rfl); (case hg => rfl); (case hr => first | (go_simp; done) | (go_simp; rfl)); intro gb318 hg w90 hbox hb; have n0_ := Aside0.mk (below_step (by first | with_reducible exact HB.out | exact sB HB.out) hb); have n1_ := Aside0.mk (hbox); have n2_ := Aside0.mk ((by rw [hg]; exact (below_size (by first | with_reducible exact HB.out | exact sB HB.out)) : w.heap.size ≤ gb318)); have n3_ := Aside0.mk ((by rw [hg]; exact (below_size (by first | with_reducible exact HB.out | exact sB HB.out)) : w.heap.size ≤ gb318)); clear HB; have HB := n0_; have BK318 := n1_; have GW318 := n2_; have GE318 := n3_; clear n0_ n1_ n2_ n3_; clear hb hbox hg) | ((with_reducible refine gate_callee (f := 28) rfl ?_); refine goesL_ (some 8) rfl rfl Try.func28 (by kernel_rfl) rfl #[.int .i64 (l0.length : Int), .int .i64 9, .int .i64 57] rfl (by (try simp only [List.map_toArray, List.map_cons, List.map_nil]); first | done | rfl | (simp only [List.length_drop, List.length_take]; rfl) | (go_simp; done) | (go_simp; rfl)) ?_; (with_reducible refine (wherryref18_in.calls (l0.length : Int) 9 57 false _ A2.out).mono ?_); rintro e w' ⟨rfl, ⟨nd, rfl⟩⟩; refine ⟨_, rfl, ?_⟩; (try (rw [drewN_self w90]; generalize hq_ : World.drewN w90 _ = w90; have n0_ : Aside0 (w90.heap[gb318]? = some (.cells #[.int .i64 0, .int .i64 0, .int .i64 0, .int .i64 0, .slice none 0 0] 24 (0, 0))) := ⟨by rw [← hq_]; exact (by first | with_reducible exact BK318.out | exact sK BK318.out)⟩; have n1_ : Aside0 (Below w.heap.size w w90) := ⟨by rw [← hq_]; exact (by repeat (first | (with_reducible first | exact HB.out | apply b1 | apply b2 | apply b3 | refine below_set ?_ GE318.out) | exact HB.out))⟩; clear BK318 HB hq_; have BK318 := n0_; have HB := n1_; clear n0_ n1_)); have hcz91_0 : w90.cell? ⟨gb318, 0, none⟩ = some (.int .i64 0) := (blk_cell BK318.out 0).trans rfl; have hcz91_1 : w90.cell? ⟨gb318, 1, none⟩ = some (.int .i64 0) := (blk_cell BK318.out 1).trans rfl; have hcz91_2 : w90.cell? ⟨gb318, 2, none⟩ = some (.int .i64 0) := (blk_cell BK318.out 2).trans rfl; have hcz91_3 : w90.cell? ⟨gb318, 3, none⟩ = some (.int .i64 0) := (blk_cell BK318.out 3).trans rfl; have hcz91_4 : w90.cell? ⟨gb318, 4, none⟩ = some (.slice none 0 0) := (blk_cell BK318.out 4).trans rfl; have hfz91_0 := blk_frozen BK318.out 0; have hfz91_1 := blk_frozen BK318.out 1; have hfz91_2 := blk_frozen BK318.out 2; have hfz91_3 := blk_frozen BK318.out 3; have hfz91_4 := blk_frozen BK318.out 4))
  refine bodyPost_ret (results_ct rfl _ _ gb318 24 #[.int .i64 0, .int .i64 0, .int .i64 0, .int .i64 0, .slice none 0 0] (0, 0) _ rfl (by (with_reducible repeat (first | refine k2 ?_ _ | refine k3 ?_ | refine k1 ?_ _)); refine blk_put (cs := #[.int .i64 0, .int .i64 0, .int .i64 0, .int .i64 0, .slice none 0 0]) ?_ 4 _ rfl; (with_reducible repeat (first | refine k2 ?_ _ | refine k3 ?_ | refine k1 ?_ _)); refine blk_put (cs := #[.int .i64 0, .int .i64 0, .int .i64 0, .int .i64 0, .slice none 0 0]) ?_ 3 _ rfl; (with_reducible repeat (first | refine k2 ?_ _ | refine k3 ?_ | refine k1 ?_ _)); refine blk_put (cs := #[.int .i64 0, .int .i64 0, .int .i64 0, .int .i64 0, .slice none 0 0]) ?_ 2 _ rfl; (with_reducible repeat (first | refine k2 ?_ _ | refine k3 ?_ | refine k1 ?_ _)); refine blk_put (cs := #[.int .i64 0, .int .i64 0, .int .i64 0, .int .i64 0, .slice none 0 0]) ?_ 1 _ rfl; (with_reducible repeat (first | refine k2 ?_ _ | refine k3 ?_ | refine k1 ?_ _)); refine blk_put (cs := #[.int .i64 0, .int .i64 0, .int .i64 0, .int .i64 0, .slice none 0 0]) ?_ 0 _ rfl; (with_reducible repeat (first | refine k2 ?_ _ | refine k3 ?_ | refine k1 ?_ _)); exact BK318.out) Try.underlying24 rfl (by kernel_rfl)) rfl ?_
  exact ⟨_, by first | rfl | (simp [errW_none, errW_some] <;> rfl) | (simp [*, errW_none, errW_some] <;> rfl), by first | exact Kd.R_nil _ _ _ _ _ | exact Kd.N_nil _ _ _ _ _ | exact Kd.V_nil _ _ _ _ _ | exact Kd.Q_nil _ _ _ _ _ | exact Kd.S_nil _ _ _ _ _, by repeat (first | (with_reducible first | exact HB.out | apply b1 | apply b2 | apply b3 | refine below_set ?_ GE318.out) | exact HB.out)⟩

end Go.Proofs.Ytcomabcmjhlabaa.FA
