/- Functions of the program, each told as a plain Lean function, and that the program computes it: written by this session's own program. -/
import Derived.Test.YtlbajfhioebphaaFAx0
import Derived.Test.YtlbajfhioebphaaFAx1
namespace Go.Proofs.Ytlbajfhioebphaa.FA
open Go.RowKit Go.Proofs.YtlbajfhioebphaaW.PrintWords Go.Proofs.YtlbajfhioebphaaW.PrintLast Go.Proofs.YtlbajfhioebphaaW.PrintMore
attribute [local go_sem] max2_int min2_int max_two min_two max_three min_three max_four min_four   -- for this text's walks alone
set_option linter.unusedVariables false
set_option linter.unusedSimpArgs false

/-! ### sender_Check: function 18 -/
def sender_Check.f (a0_0 : Int) (l0_1 : List Int) (a0_2 : Bool) (a0_3 : Int) (a0_4 : Int) (a0_5 : Int) (a0_6 : Bool) : Option (Int) := if a0_0 < 1 then (some 1) else (if a0_0 > 65535 then (some 1) else (if (l0_1.length : Int) < 1 then (some 1) else (if (l0_1.length : Int) > 5000 then (some 1) else (if a0_5 < 0 then (some 1) else (if a0_5 > 3 then (some 1) else (if a0_2 = true then (if a0_3 < 0 then (some 1) else ((sender_count.f (l0_1.length : Int)).bind fun t111 => (if a0_3 > t111 then (some 1) else (if a0_4 < a0_3 then (some 1) else ((sender_top.f a0_0 l0_1 a0_2 a0_3 a0_4 a0_5 a0_6).bind fun t112 => (if a0_4 > t112 then (some 1) else (some 0))))))) else (if a0_3 = 0 then (if a0_4 = 0 then (if a0_3 < 0 then (some 1) else ((sender_count.f (l0_1.length : Int)).bind fun t113 => (if a0_3 > t113 then (some 1) else (if a0_4 < a0_3 then (some 1) else ((sender_top.f a0_0 l0_1 a0_2 a0_3 a0_4 a0_5 a0_6).bind fun t114 => (if a0_4 > t114 then (some 1) else (some 0))))))) else (some 1)) else (some 1))))))))
def sender_Check.T1 : Bool × List (List Nat × List Nat) := (true, [([], []), ([0], [0]), ([1], [1]), ([2], [2]), ([3], [3]), ([4, 3], [3, 4]), ([5, 3], [3, 5]), ([3, 6], [3, 6]), ([7, 3], [7]), ([8], [8]), ([9, 8], [8, 9]), ([10, 8], [8, 10]), ([11, 8], [8, 11]), ([8, 12], [8, 12]), ([13, 8], [13]), ([14], [14]), ([15, 14], [14, 15]), ([16, 14], [14, 16]), ([17, 14], [14, 17]), ([14, 18], [14, 18]), ([19, 14], [19]), ([20], [20]), ([21, 20], [20, 21]), ([22, 20], [20, 22]), ([20, 23], [20, 23]), ([24, 20], [24]), ([25], [25]), ([26, 25], [25, 26]), ([27, 25], [25, 27]), ([25, 28], [25, 28]), ([29, 25], [29]), ([30], [30]), ([31, 30], [30, 31]), ([32, 30], [30, 32]), ([33, 30, 30], [30, 33]), ([34], [34]), ([35, 34], [34, 35]), ([36, 34], [34, 36]), ([37, 34, 34], [34, 37]), ([38], [38]), ([39, 38], [38, 39]), ([40, 38], [38, 40]), ([38, 41, 34], [34, 38, 41]), ([34, 42, 30], [30, 34, 42]), ([30, 43], [30, 43]), ([44, 38], [44]), ([45], [45]), ([46, 45], [45, 46]), ([47, 45], [45, 47]), ([45, 48], [45, 48]), ([49, 45], [49]), ([50], [50]), ([51, 50], [50, 51]), ([50], [50]), ([53, 50], [50, 53]), ([54, 50], [50, 54]), ([55, 50, 50], [50, 55]), ([52, 56, 50], [50, 52, 56]), ([50, 57], [50, 57]), ([58, 56], [58]), ([59], [59]), ([60, 59], [59, 60]), ([59], [59]), ([62, 59], [59, 62]), ([61, 63, 59], [59, 61, 63]), ([59, 64], [59, 64]), ([65, 59], [65]), ([66], [66]), ([67, 66], [66, 67]), ([66], [66]), ([69, 66, 66], [66, 69]), ([68, 70, 66], [66, 68, 70]), ([66, 71], [66, 71])])
def sender_Check.B1 : List Nat := [0, 1, 3, 7, 15, 31, 63, 127, 255, 511, 1023, 2047, 4095, 8191, 16383, 32767, 65535, 131071, 262143, 524287, 1048575, 2097151, 4194303, 8388607, 16777215, 33554431, 67108863, 134217727, 268435455, 536870911, 1073741823, 2147483647, 4294967295, 8589934591, 17179869183, 34359738367, 68719476735, 137438953471, 274877906943, 549755813887, 1099511627775, 2199023255551, 4398046511103, 8796093022207, 17592186044415, 35184372088831, 70368744177663, 140737488355327, 281474976710655, 562949953421311, 1125899906842623, 2251799813685247, 4503599627370495, 2251799813685247, 11258999068426239, 29273397577908223, 65302194596872191, 144115188075855871, 288230376151711743, 576460752303423487, 1152921504606846975, 2305843009213693951, 1152921504606846975, 5764607523034234879, 18446744073709551615, 36893488147419103231, 73786976294838206463, 147573952589676412927, 295147905179352825855, 147573952589676412927, 737869762948382064639, 2361183241434822606847, 4722366482869645213695]
theorem sender_Check.tab1 : rtab .any (opsOf Try.f18 1) = sender_Check.T1 := by kernel_rfl
theorem sender_Check.bits1 : waitsOk sender_Check.T1.2 sender_Check.B1 = true := by kernel_rfl
set_option maxHeartbeats 8000000 in
set_option maxRecDepth 100000 in
theorem sender_Check.calls (a0_0 : Int) (A0_1 : Option Addr) (c0_1 : Nat) (l0_1 : List Int) (a0_2 : Bool) (a0_3 : Int) (a0_4 : Int) (a0_5 : Int) (a0_6 : Bool) (r : Int) (w : World) (hr0_1 : Kd.C (Kd.int .u8) w A0_1 l0_1.length l0_1) (hc0_1 : l0_1.length ≤ c0_1) (h : sender_Check.f a0_0 l0_1 a0_2 a0_3 a0_4 a0_5 a0_6 = some r) :
  Calls Try.prog 18 #[.agg #[.int .i64 a0_0, .slice A0_1 l0_1.length c0_1, .bool a0_2, .int .i64 a0_3, .int .i64 a0_4, .int .i64 a0_5, .bool a0_6]] w fun e w' => e = .returned (.int .i64 r) ∧ Below w.heap.size w w' := by
 have hu24 := Try.underlying24
 have HR0_1 := Aside0.mk hr0_1
 have HC0_1 := Aside0.mk hc0_1
 clear hr0_1 hc0_1
 have HB := Aside0.mk (Below.refl w.heap.size w)
 have H : (if a0_0 < 1 then (some 1) else (if a0_0 > 65535 then (some 1) else (if (l0_1.length : Int) < 1 then (some 1) else (if (l0_1.length : Int) > 5000 then (some 1) else (if a0_5 < 0 then (some 1) else (if a0_5 > 3 then (some 1) else (if a0_2 = true then (if a0_3 < 0 then (some 1) else ((sender_count.f (l0_1.length : Int)).bind fun t111 => (if a0_3 > t111 then (some 1) else (if a0_4 < a0_3 then (some 1) else ((sender_top.f a0_0 l0_1 a0_2 a0_3 a0_4 a0_5 a0_6).bind fun t112 => (if a0_4 > t112 then (some 1) else (some 0))))))) else (if a0_3 = 0 then (if a0_4 = 0 then (if a0_3 < 0 then (some 1) else ((sender_count.f (l0_1.length : Int)).bind fun t113 => (if a0_3 > t113 then (some 1) else (if a0_4 < a0_3 then (some 1) else ((sender_top.f a0_0 l0_1 a0_2 a0_3 a0_4 a0_5 a0_6).bind fun t114 => (if a0_4 > t114 then (some 1) else (some 0))))))) else (some 1)) else (some 1))))))))) = some r := h
 clear h
 by_cases c2 : a0_0 < 1
 ·rw [if_pos c2] at H
  have c2b0 : decide (a0_0 < 1) = true := decide_eq_true c2
  clear c2
  obtain rfl := Option.some.inj H
  go_enter Try.func18, Try.ntmps18
  try go_wp2_with (first | ((with_reducible refine gate_dst (N := 1) rfl ?_); (try (refine gate_guard (by rfl) ?_; dsimp only)); refine box_event ?hg (N := 1) ?hd (cs := #[.int .i64 a0_0, .slice A0_1 l0_1.length c0_1, .bool a0_2, .int .i64 a0_3, .int .i64 a0_4, .int .i64 a0_5, .bool a0_6]) (t := 24) ?hr ?_; (case hd => rfl); (case hg => rfl); (case hr => first | (go_simp; done) | (go_simp; rfl)); intro gb110 hg w3 hbox hb; have n0_ := Aside0.mk (below_step (by first | with_reducible exact HB.out | exact sB HB.out) hb); have n1_ := Aside0.mk (hbox); have n2_ := Aside0.mk ((by rw [hg]; exact (below_size (by first | with_reducible exact HB.out | exact sB HB.out)) : w.heap.size ≤ gb110)); have n3_ := Aside0.mk ((by rw [hg]; exact (below_size (by first | with_reducible exact HB.out | exact sB HB.out)) : w.heap.size ≤ gb110)); clear HB; have HB := n0_; have BK110 := n1_; have GW110 := n2_; have GE110 := n3_; clear n0_ n1_ n2_ n3_; clear hb hbox hg))
  have n0_ := Aside0.mk (blk_drew BK110.out)
  have n1_ := Aside0.mk (below_drew1 HB.out)
  clear BK110
  clear HB
  have BK110 := n0_
  have HB := n1_
  clear n0_ n1_
  refine start_ (n := 73) (S := fun w' => w'.cell? ⟨gb110, 0, none⟩ = some (.int .i64 a0_0) ∧ w'.cell? ⟨gb110, 1, none⟩ = some (.slice A0_1 l0_1.length c0_1) ∧ w'.cell? ⟨gb110, 2, none⟩ = some (.bool a0_2) ∧ w'.cell? ⟨gb110, 3, none⟩ = some (.int .i64 a0_3) ∧ w'.cell? ⟨gb110, 4, none⟩ = some (.int .i64 a0_4) ∧ w'.cell? ⟨gb110, 5, none⟩ = some (.int .i64 a0_5) ∧ w'.cell? ⟨gb110, 6, none⟩ = some (.bool a0_6)) (ds := []) (bu 73 0) (by kernel_rfl) rfl rfl ⟨(blk_cell BK110.out 0).trans rfl, (blk_cell BK110.out 1).trans rfl, (blk_cell BK110.out 2).trans rfl, (blk_cell BK110.out 3).trans rfl, (blk_cell BK110.out 4).trans rfl, (blk_cell BK110.out 5).trans rfl, (blk_cell BK110.out 6).trans rfl⟩ (fun hHeld => ?_); refine with_tabW sender_Check.tab1 sender_Check.bits1 (fun HT_ HW_ => ?_)
  generalize w3.drew = w4 at BK110 HB hHeld ⊢
  refine pA 0 3 (bu 73 1) ?_ HT_ rfl rfl (.inl ⟨by rfl, ?_⟩) ?_ ?_ ?_; rotate_left; (focus intro w'; go_simp; with_reducible rfl); rotate_left; (focus simp only [pk]; rfl)
  refine tA 1 4 (bu 73 2) ?_ HT_ HW_ rfl rfl (.inl ⟨by rfl, ?_⟩) hHeld ?_ ?_ ?_; rotate_left; (focus rintro w' ⟨s0, s1, s2, s3, s4, s5, s6⟩; go_simp; with_reducible rfl); rotate_left; (focus simp only [pk]; rfl)
  refine pA 2 5 (bu 73 3) ?_ HT_ rfl rfl (.inl ⟨by rfl, ?_⟩) ?_ ?_ ?_; rotate_left; (focus intro w'; go_simp; with_reducible rfl); rotate_left; (focus simp only [pk]; rfl)
  refine pA 3 6 (bu 73 4) ?_ HT_ rfl rfl (.inl ⟨by rfl, ?_⟩) ?_ ?_ ?_; rotate_left; (focus intro w'; go_simp; with_reducible rfl); rotate_left; (focus simp only [pk]; rfl)
  refine pU 4 7 (bu 73 5) HT_ ?_ ?_ ?_; rotate_left; (focus simp only [pk]; rfl)
  refine pU 5 8 (bu 73 6) HT_ ?_ ?_ ?_; rotate_left; (focus simp only [pk]; rfl)
  refine pU 6 9 (bu 73 7) HT_ ?_ ?_ ?_; rotate_left; (focus simp only [pk]; rfl)
  refine pA 7 10 (bu 73 8) ?_ HT_ rfl rfl (.inl ⟨by rfl, ?_⟩) ?_ ?_ ?_; rotate_left; (focus intro w'; go_simp; with_reducible rfl); rotate_left; (focus simp only [pk]; rfl)
  refine pA 8 11 (bu 73 9) ?_ HT_ rfl rfl (.inl ⟨by rfl, ?_⟩) ?_ ?_ ?_; rotate_left; (focus intro w'; go_simp; with_reducible rfl); rotate_left; (focus simp only [pk]; rfl)
  refine pU 9 12 (bu 73 10) HT_ ?_ ?_ ?_; rotate_left; (focus simp only [pk]; rfl)
  refine pU 10 13 (bu 73 11) HT_ ?_ ?_ ?_; rotate_left; (focus simp only [pk]; rfl)
  refine pU 11 14 (bu 73 12) HT_ ?_ ?_ ?_; rotate_left; (focus simp only [pk]; rfl)
  refine pU 12 15 (bu 73 13) HT_ ?_ ?_ ?_; rotate_left; (focus simp only [pk]; rfl)
  refine pA 13 16 (bu 73 14) ?_ HT_ rfl rfl (.inl ⟨by rfl, ?_⟩) ?_ ?_ ?_; rotate_left; (focus intro w'; go_simp; with_reducible rfl); rotate_left; (focus simp only [pk]; rfl)
  refine pA 14 17 (bu 73 15) ?_ HT_ rfl rfl (.inl ⟨by rfl, ?_⟩) ?_ ?_ ?_; rotate_left; (focus intro w'; go_simp; with_reducible rfl); rotate_left; (focus simp only [pk]; rfl)
  refine pU 15 18 (bu 73 16) HT_ ?_ ?_ ?_; rotate_left; (focus simp only [pk]; rfl)
  refine pU 16 19 (bu 73 17) HT_ ?_ ?_ ?_; rotate_left; (focus simp only [pk]; rfl)
  refine pU 17 20 (bu 73 18) HT_ ?_ ?_ ?_; rotate_left; (focus simp only [pk]; rfl)
  refine pU 18 21 (bu 73 19) HT_ ?_ ?_ ?_; rotate_left; (focus simp only [pk]; rfl)
  refine pA 19 22 (bu 73 20) ?_ HT_ rfl rfl (.inl ⟨by rfl, ?_⟩) ?_ ?_ ?_; rotate_left; (focus intro w'; go_simp; with_reducible rfl); rotate_left; (focus simp only [pk]; rfl)
  refine pA 20 23 (bu 73 21) ?_ HT_ rfl rfl (.inl ⟨by rfl, ?_⟩) ?_ ?_ ?_; rotate_left; (focus intro w'; go_simp; with_reducible rfl); rotate_left; (focus simp only [pk]; rfl)
  refine pU 21 24 (bu 73 22) HT_ ?_ ?_ ?_; rotate_left; (focus simp only [pk]; rfl)
  refine pU 22 25 (bu 73 23) HT_ ?_ ?_ ?_; rotate_left; (focus simp only [pk]; rfl)
  refine pU 23 26 (bu 73 24) HT_ ?_ ?_ ?_; rotate_left; (focus simp only [pk]; rfl)
  refine pA 24 27 (bu 73 25) ?_ HT_ rfl rfl (.inl ⟨by rfl, ?_⟩) ?_ ?_ ?_; rotate_left; (focus intro w'; go_simp; with_reducible rfl); rotate_left; (focus simp only [pk]; rfl)
  refine pA 25 28 (bu 73 26) ?_ HT_ rfl rfl (.inl ⟨by rfl, ?_⟩) ?_ ?_ ?_; rotate_left; (focus intro w'; go_simp; with_reducible rfl); rotate_left; (focus simp only [pk]; rfl)
  refine pU 26 29 (bu 73 27) HT_ ?_ ?_ ?_; rotate_left; (focus simp only [pk]; rfl)
  refine pU 27 30 (bu 73 28) HT_ ?_ ?_ ?_; rotate_left; (focus simp only [pk]; rfl)
  refine pU 28 31 (bu 73 29) HT_ ?_ ?_ ?_; rotate_left; (focus simp only [pk]; rfl)
  refine pA 29 32 (bu 73 30) ?_ HT_ rfl rfl (.inl ⟨by rfl, ?_⟩) ?_ ?_ ?_; rotate_left; (focus intro w'; go_simp; with_reducible rfl); rotate_left; (focus simp only [pk]; rfl)
  refine pA 30 33 (bu 73 31) ?_ HT_ rfl rfl (.inl ⟨by rfl, ?_⟩) ?_ ?_ ?_; rotate_left; (focus intro w'; go_simp; with_reducible rfl); rotate_left; (focus simp only [pk]; rfl)
  refine pU 31 34 (bu 73 32) HT_ ?_ ?_ ?_; rotate_left; (focus simp only [pk]; rfl)
  refine pU 32 35 (bu 73 33) HT_ ?_ ?_ ?_; rotate_left; (focus simp only [pk]; rfl)
  refine pU 33 36 (bu 73 34) HT_ ?_ ?_ ?_; rotate_left; (focus simp only [pk]; rfl)
  refine pU 34 37 (bu 73 35) HT_ ?_ ?_ ?_; rotate_left; (focus simp only [pk]; rfl)
  refine pU 35 38 (bu 73 36) HT_ ?_ ?_ ?_; rotate_left; (focus simp only [pk]; rfl)
  refine pU 36 39 (bu 73 37) HT_ ?_ ?_ ?_; rotate_left; (focus simp only [pk]; rfl)
  refine pU 37 40 (bu 73 38) HT_ ?_ ?_ ?_; rotate_left; (focus simp only [pk]; rfl)
  refine pU 38 41 (bu 73 39) HT_ ?_ ?_ ?_; rotate_left; (focus simp only [pk]; rfl)
  refine pU 39 42 (bu 73 40) HT_ ?_ ?_ ?_; rotate_left; (focus simp only [pk]; rfl)
  refine pU 40 43 (bu 73 41) HT_ ?_ ?_ ?_; rotate_left; (focus simp only [pk]; rfl)
  refine pU 41 44 (bu 73 42) HT_ ?_ ?_ ?_; rotate_left; (focus simp only [pk]; rfl)
  refine pU 42 45 (bu 73 43) HT_ ?_ ?_ ?_; rotate_left; (focus simp only [pk]; rfl)
  refine pU 43 46 (bu 73 44) HT_ ?_ ?_ ?_; rotate_left; (focus simp only [pk]; rfl)
  refine pA 44 47 (bu 73 45) ?_ HT_ rfl rfl (.inl ⟨by rfl, ?_⟩) ?_ ?_ ?_; rotate_left; (focus intro w'; go_simp; with_reducible rfl); rotate_left; (focus simp only [pk]; rfl)
  refine pA 45 48 (bu 73 46) ?_ HT_ rfl rfl (.inl ⟨by rfl, ?_⟩) ?_ ?_ ?_; rotate_left; (focus intro w'; go_simp; with_reducible rfl); rotate_left; (focus simp only [pk]; rfl)
  refine pU 46 49 (bu 73 47) HT_ ?_ ?_ ?_; rotate_left; (focus simp only [pk]; rfl)
  refine pU 47 50 (bu 73 48) HT_ ?_ ?_ ?_; rotate_left; (focus simp only [pk]; rfl)
  refine pU 48 51 (bu 73 49) HT_ ?_ ?_ ?_; rotate_left; (focus simp only [pk]; rfl)
  refine pA 49 52 (bu 73 50) ?_ HT_ rfl rfl (.inl ⟨by rfl, ?_⟩) ?_ ?_ ?_; rotate_left; (focus intro w'; go_simp; with_reducible rfl); rotate_left; (focus simp only [pk]; rfl)
  refine pA 50 53 (bu 73 51) ?_ HT_ rfl rfl (.inl ⟨by rfl, ?_⟩) ?_ ?_ ?_; rotate_left; (focus intro w'; go_simp; with_reducible rfl); rotate_left; (focus simp only [pk]; rfl)
  refine pU 51 54 (bu 73 52) HT_ ?_ ?_ ?_; rotate_left; (focus simp only [pk]; rfl)
  refine pU 52 55 (bu 73 53) HT_ ?_ ?_ ?_; rotate_left; (focus simp only [pk]; rfl)
  refine pU 53 56 (bu 73 54) HT_ ?_ ?_ ?_; rotate_left; (focus simp only [pk]; rfl)
  refine pU 54 57 (bu 73 55) HT_ ?_ ?_ ?_; rotate_left; (focus simp only [pk]; rfl)
  refine pU 55 58 (bu 73 56) HT_ ?_ ?_ ?_; rotate_left; (focus simp only [pk]; rfl)
  refine pU 56 59 (bu 73 57) HT_ ?_ ?_ ?_; rotate_left; (focus simp only [pk]; rfl)
  refine pU 57 60 (bu 73 58) HT_ ?_ ?_ ?_; rotate_left; (focus simp only [pk]; rfl)
  refine pA 58 61 (bu 73 59) ?_ HT_ rfl rfl (.inl ⟨by rfl, ?_⟩) ?_ ?_ ?_; rotate_left; (focus intro w'; go_simp; with_reducible rfl); rotate_left; (focus simp only [pk]; rfl)
  refine pA 59 62 (bu 73 60) ?_ HT_ rfl rfl (.inl ⟨by rfl, ?_⟩) ?_ ?_ ?_; rotate_left; (focus intro w'; go_simp; with_reducible rfl); rotate_left; (focus simp only [pk]; rfl)
  refine pU 60 63 (bu 73 61) HT_ ?_ ?_ ?_; rotate_left; (focus simp only [pk]; rfl)
  refine pU 61 64 (bu 73 62) HT_ ?_ ?_ ?_; rotate_left; (focus simp only [pk]; rfl)
  refine pU 62 65 (bu 73 63) HT_ ?_ ?_ ?_; rotate_left; (focus simp only [pk]; rfl)
  refine pU 63 66 (bu 73 64) HT_ ?_ ?_ ?_; rotate_left; (focus simp only [pk]; rfl)
  refine pU 64 67 (bu 73 65) HT_ ?_ ?_ ?_; rotate_left; (focus simp only [pk]; rfl)
  refine pA 65 68 (bu 73 66) ?_ HT_ rfl rfl (.inl ⟨by rfl, ?_⟩) ?_ ?_ ?_; rotate_left; (focus intro w'; go_simp; with_reducible rfl); rotate_left; (focus simp only [pk]; rfl)
  refine pA 66 69 (bu 73 67) ?_ HT_ rfl rfl (.inl ⟨by rfl, ?_⟩) ?_ ?_ ?_; rotate_left; (focus intro w'; go_simp; with_reducible rfl); rotate_left; (focus simp only [pk]; rfl)
  refine pU 67 70 (bu 73 68) HT_ ?_ ?_ ?_; rotate_left; (focus simp only [pk]; rfl)
  refine pU 68 71 (bu 73 69) HT_ ?_ ?_ ?_; rotate_left; (focus simp only [pk]; rfl)
  refine pU 69 72 (bu 73 70) HT_ ?_ ?_ ?_; rotate_left; (focus simp only [pk]; rfl)
  refine pU 70 73 (bu 73 71) HT_ ?_ ?_ ?_; rotate_left; (focus simp only [pk]; rfl)
  refine pU 71 74 (bu 73 72) HT_ ?_ ?_ ?_; rotate_left; (focus simp only [pk]; rfl)
  refine pA 72 75 (bu 73 73) ?_ HT_ rfl rfl (.inl ⟨by rfl, ?_⟩) ?_ ?_ ?_; rotate_left; (focus intro w'; go_simp; with_reducible rfl); rotate_left; (focus simp only [pk]; rfl)
  refine done_ (done_of HT_.out (by kernel_rfl)) ?_
  try go_wp2
  go_ret
  exact ⟨by first | rfl | (simp [errW_none, errW_some] <;> rfl) | (simp [*, errW_none, errW_some] <;> rfl), by repeat (first | (with_reducible first | exact HB.out | apply b1 | apply b2 | apply b3 | refine below_set ?_ GE110.out) | exact HB.out)⟩
 ·rw [if_neg c2] at H
  have c2b0 : decide (a0_0 < 1) = false := decide_eq_false c2
  clear c2
  by_cases c5 : a0_0 > 65535
  ·rw [if_pos c5] at H
   have c5b0 : decide (65535 < a0_0) = true := decide_eq_true c5
   clear c5
   obtain rfl := Option.some.inj H
   go_enter Try.func18, Try.ntmps18
   try go_wp2_with (first | ((with_reducible refine gate_dst (N := 1) rfl ?_); (try (refine gate_guard (by rfl) ?_; dsimp only)); refine box_event ?hg (N := 1) ?hd (cs := #[.int .i64 a0_0, .slice A0_1 l0_1.length c0_1, .bool a0_2, .int .i64 a0_3, .int .i64 a0_4, .int .i64 a0_5, .bool a0_6]) (t := 24) ?hr ?_; (case hd => rfl); (case hg => rfl); (case hr => first | (go_simp; done) | (go_simp; rfl)); intro gb110 hg w6 hbox hb; have n0_ := Aside0.mk (below_step (by first | with_reducible exact HB.out | exact sB HB.out) hb); have n1_ := Aside0.mk (hbox); have n2_ := Aside0.mk ((by rw [hg]; exact (below_size (by first | with_reducible exact HB.out | exact sB HB.out)) : w.heap.size ≤ gb110)); have n3_ := Aside0.mk ((by rw [hg]; exact (below_size (by first | with_reducible exact HB.out | exact sB HB.out)) : w.heap.size ≤ gb110)); clear HB; have HB := n0_; have BK110 := n1_; have GW110 := n2_; have GE110 := n3_; clear n0_ n1_ n2_ n3_; clear hb hbox hg))
   have n0_ := Aside0.mk (blk_drew BK110.out)
   have n1_ := Aside0.mk (below_drew1 HB.out)
   clear BK110
   clear HB
   have BK110 := n0_
   have HB := n1_
   clear n0_ n1_
   refine start_ (n := 73) (S := fun w' => w'.cell? ⟨gb110, 0, none⟩ = some (.int .i64 a0_0) ∧ w'.cell? ⟨gb110, 1, none⟩ = some (.slice A0_1 l0_1.length c0_1) ∧ w'.cell? ⟨gb110, 2, none⟩ = some (.bool a0_2) ∧ w'.cell? ⟨gb110, 3, none⟩ = some (.int .i64 a0_3) ∧ w'.cell? ⟨gb110, 4, none⟩ = some (.int .i64 a0_4) ∧ w'.cell? ⟨gb110, 5, none⟩ = some (.int .i64 a0_5) ∧ w'.cell? ⟨gb110, 6, none⟩ = some (.bool a0_6)) (ds := []) (bu 73 0) (by kernel_rfl) rfl rfl ⟨(blk_cell BK110.out 0).trans rfl, (blk_cell BK110.out 1).trans rfl, (blk_cell BK110.out 2).trans rfl, (blk_cell BK110.out 3).trans rfl, (blk_cell BK110.out 4).trans rfl, (blk_cell BK110.out 5).trans rfl, (blk_cell BK110.out 6).trans rfl⟩ (fun hHeld => ?_); refine with_tabW sender_Check.tab1 sender_Check.bits1 (fun HT_ HW_ => ?_)
   generalize w6.drew = w7 at BK110 HB hHeld ⊢
   refine pA 0 3 (bu 73 1) ?_ HT_ rfl rfl (.inl ⟨by rfl, ?_⟩) ?_ ?_ ?_; rotate_left; (focus intro w'; go_simp; with_reducible rfl); rotate_left; (focus simp only [pk]; rfl)
   refine tA 1 4 (bu 73 2) ?_ HT_ HW_ rfl rfl (.inl ⟨by rfl, ?_⟩) hHeld ?_ ?_ ?_; rotate_left; (focus rintro w' ⟨s0, s1, s2, s3, s4, s5, s6⟩; go_simp; with_reducible rfl); rotate_left; (focus simp only [pk]; rfl)
   refine pA 2 5 (bu 73 3) ?_ HT_ rfl rfl (.inl ⟨by rfl, ?_⟩) ?_ ?_ ?_; rotate_left; (focus intro w'; go_simp; with_reducible rfl); rotate_left; (focus simp only [pk]; rfl)
   refine pA 3 6 (bu 73 4) ?_ HT_ rfl rfl (.inl ⟨by rfl, ?_⟩) ?_ ?_ ?_; rotate_left; (focus intro w'; go_simp; with_reducible rfl); rotate_left; (focus simp only [pk]; rfl)
   refine pA 4 7 (bu 73 5) ?_ HT_ rfl rfl (.inl ⟨by rfl, ?_⟩) ?_ ?_ ?_; rotate_left; (focus intro w'; go_simp; with_reducible rfl); rotate_left; (focus simp only [pk]; rfl)
   refine tA 5 8 (bu 73 6) ?_ HT_ HW_ rfl rfl (.inl ⟨by rfl, ?_⟩) hHeld ?_ ?_ ?_; rotate_left; (focus rintro w' ⟨s0, s1, s2, s3, s4, s5, s6⟩; go_simp; with_reducible rfl); rotate_left; (focus simp only [pk]; rfl)
   refine pA 6 9 (bu 73 7) ?_ HT_ rfl rfl (.inl ⟨by rfl, ?_⟩) ?_ ?_ ?_; rotate_left; (focus intro w'; go_simp; with_reducible rfl); rotate_left; (focus simp only [pk]; rfl)
   refine pA 7 10 (bu 73 8) ?_ HT_ rfl rfl (.inl ⟨by rfl, ?_⟩) ?_ ?_ ?_; rotate_left; (focus intro w'; go_simp; with_reducible rfl); rotate_left; (focus simp only [pk]; rfl)
   refine pA 8 11 (bu 73 9) ?_ HT_ rfl rfl (.inl ⟨by rfl, ?_⟩) ?_ ?_ ?_; rotate_left; (focus intro w'; go_simp; with_reducible rfl); rotate_left; (focus simp only [pk]; rfl)
   refine pU 9 12 (bu 73 10) HT_ ?_ ?_ ?_; rotate_left; (focus simp only [pk]; rfl)
   refine pU 10 13 (bu 73 11) HT_ ?_ ?_ ?_; rotate_left; (focus simp only [pk]; rfl)
   refine pU 11 14 (bu 73 12) HT_ ?_ ?_ ?_; rotate_left; (focus simp only [pk]; rfl)
   refine pU 12 15 (bu 73 13) HT_ ?_ ?_ ?_; rotate_left; (focus simp only [pk]; rfl)
   refine pA 13 16 (bu 73 14) ?_ HT_ rfl rfl (.inl ⟨by rfl, ?_⟩) ?_ ?_ ?_; rotate_left; (focus intro w'; go_simp; with_reducible rfl); rotate_left; (focus simp only [pk]; rfl)
   refine pA 14 17 (bu 73 15) ?_ HT_ rfl rfl (.inl ⟨by rfl, ?_⟩) ?_ ?_ ?_; rotate_left; (focus intro w'; go_simp; with_reducible rfl); rotate_left; (focus simp only [pk]; rfl)
   refine pU 15 18 (bu 73 16) HT_ ?_ ?_ ?_; rotate_left; (focus simp only [pk]; rfl)
   refine pU 16 19 (bu 73 17) HT_ ?_ ?_ ?_; rotate_left; (focus simp only [pk]; rfl)
   refine pU 17 20 (bu 73 18) HT_ ?_ ?_ ?_; rotate_left; (focus simp only [pk]; rfl)
   refine pU 18 21 (bu 73 19) HT_ ?_ ?_ ?_; rotate_left; (focus simp only [pk]; rfl)
   refine pA 19 22 (bu 73 20) ?_ HT_ rfl rfl (.inl ⟨by rfl, ?_⟩) ?_ ?_ ?_; rotate_left; (focus intro w'; go_simp; with_reducible rfl); rotate_left; (focus simp only [pk]; rfl)
   refine pA 20 23 (bu 73 21) ?_ HT_ rfl rfl (.inl ⟨by rfl, ?_⟩) ?_ ?_ ?_; rotate_left; (focus intro w'; go_simp; with_reducible rfl); rotate_left; (focus simp only [pk]; rfl)
   refine pU 21 24 (bu 73 22) HT_ ?_ ?_ ?_; rotate_left; (focus simp only [pk]; rfl)
   refine pU 22 25 (bu 73 23) HT_ ?_ ?_ ?_; rotate_left; (focus simp only [pk]; rfl)
   refine pU 23 26 (bu 73 24) HT_ ?_ ?_ ?_; rotate_left; (focus simp only [pk]; rfl)
   refine pA 24 27 (bu 73 25) ?_ HT_ rfl rfl (.inl ⟨by rfl, ?_⟩) ?_ ?_ ?_; rotate_left; (focus intro w'; go_simp; with_reducible rfl); rotate_left; (focus simp only [pk]; rfl)
   refine pA 25 28 (bu 73 26) ?_ HT_ rfl rfl (.inl ⟨by rfl, ?_⟩) ?_ ?_ ?_; rotate_left; (focus intro w'; go_simp; with_reducible rfl); rotate_left; (focus simp only [pk]; rfl)
   refine pU 26 29 (bu 73 27) HT_ ?_ ?_ ?_; rotate_left; (focus simp only [pk]; rfl)
   refine pU 27 30 (bu 73 28) HT_ ?_ ?_ ?_; rotate_left; (focus simp only [pk]; rfl)
   refine pU 28 31 (bu 73 29) HT_ ?_ ?_ ?_; rotate_left; (focus simp only [pk]; rfl)
   refine pA 29 32 (bu 73 30) ?_ HT_ rfl rfl (.inl ⟨by rfl, ?_⟩) ?_ ?_ ?_; rotate_left; (focus intro w'; go_simp; with_reducible rfl); rotate_left; (focus simp only [pk]; rfl)
   refine pA 30 33 (bu 73 31) ?_ HT_ rfl rfl (.inl ⟨by rfl, ?_⟩) ?_ ?_ ?_; rotate_left; (focus intro w'; go_simp; with_reducible rfl); rotate_left; (focus simp only [pk]; rfl)
   refine pU 31 34 (bu 73 32) HT_ ?_ ?_ ?_; rotate_left; (focus simp only [pk]; rfl)
   refine pU 32 35 (bu 73 33) HT_ ?_ ?_ ?_; rotate_left; (focus simp only [pk]; rfl)
   refine pU 33 36 (bu 73 34) HT_ ?_ ?_ ?_; rotate_left; (focus simp only [pk]; rfl)
   refine pU 34 37 (bu 73 35) HT_ ?_ ?_ ?_; rotate_left; (focus simp only [pk]; rfl)
   refine pU 35 38 (bu 73 36) HT_ ?_ ?_ ?_; rotate_left; (focus simp only [pk]; rfl)
   refine pU 36 39 (bu 73 37) HT_ ?_ ?_ ?_; rotate_left; (focus simp only [pk]; rfl)
   refine pU 37 40 (bu 73 38) HT_ ?_ ?_ ?_; rotate_left; (focus simp only [pk]; rfl)
   refine pU 38 41 (bu 73 39) HT_ ?_ ?_ ?_; rotate_left; (focus simp only [pk]; rfl)
   refine pU 39 42 (bu 73 40) HT_ ?_ ?_ ?_; rotate_left; (focus simp only [pk]; rfl)
   refine pU 40 43 (bu 73 41) HT_ ?_ ?_ ?_; rotate_left; (focus simp only [pk]; rfl)
   refine pU 41 44 (bu 73 42) HT_ ?_ ?_ ?_; rotate_left; (focus simp only [pk]; rfl)
   refine pU 42 45 (bu 73 43) HT_ ?_ ?_ ?_; rotate_left; (focus simp only [pk]; rfl)
   refine pU 43 46 (bu 73 44) HT_ ?_ ?_ ?_; rotate_left; (focus simp only [pk]; rfl)
   refine pA 44 47 (bu 73 45) ?_ HT_ rfl rfl (.inl ⟨by rfl, ?_⟩) ?_ ?_ ?_; rotate_left; (focus intro w'; go_simp; with_reducible rfl); rotate_left; (focus simp only [pk]; rfl)
   refine pA 45 48 (bu 73 46) ?_ HT_ rfl rfl (.inl ⟨by rfl, ?_⟩) ?_ ?_ ?_; rotate_left; (focus intro w'; go_simp; with_reducible rfl); rotate_left; (focus simp only [pk]; rfl)
   refine pU 46 49 (bu 73 47) HT_ ?_ ?_ ?_; rotate_left; (focus simp only [pk]; rfl)
   refine pU 47 50 (bu 73 48) HT_ ?_ ?_ ?_; rotate_left; (focus simp only [pk]; rfl)
   refine pU 48 51 (bu 73 49) HT_ ?_ ?_ ?_; rotate_left; (focus simp only [pk]; rfl)
   refine pA 49 52 (bu 73 50) ?_ HT_ rfl rfl (.inl ⟨by rfl, ?_⟩) ?_ ?_ ?_; rotate_left; (focus intro w'; go_simp; with_reducible rfl); rotate_left; (focus simp only [pk]; rfl)
   refine pA 50 53 (bu 73 51) ?_ HT_ rfl rfl (.inl ⟨by rfl, ?_⟩) ?_ ?_ ?_; rotate_left; (focus intro w'; go_simp; with_reducible rfl); rotate_left; (focus simp only [pk]; rfl)
   refine pU 51 54 (bu 73 52) HT_ ?_ ?_ ?_; rotate_left; (focus simp only [pk]; rfl)
   refine pU 52 55 (bu 73 53) HT_ ?_ ?_ ?_; rotate_left; (focus simp only [pk]; rfl)
   refine pU 53 56 (bu 73 54) HT_ ?_ ?_ ?_; rotate_left; (focus simp only [pk]; rfl)
   refine pU 54 57 (bu 73 55) HT_ ?_ ?_ ?_; rotate_left; (focus simp only [pk]; rfl)
   refine pU 55 58 (bu 73 56) HT_ ?_ ?_ ?_; rotate_left; (focus simp only [pk]; rfl)
   refine pU 56 59 (bu 73 57) HT_ ?_ ?_ ?_; rotate_left; (focus simp only [pk]; rfl)
   refine pU 57 60 (bu 73 58) HT_ ?_ ?_ ?_; rotate_left; (focus simp only [pk]; rfl)
   refine pA 58 61 (bu 73 59) ?_ HT_ rfl rfl (.inl ⟨by rfl, ?_⟩) ?_ ?_ ?_; rotate_left; (focus intro w'; go_simp; with_reducible rfl); rotate_left; (focus simp only [pk]; rfl)
   refine pA 59 62 (bu 73 60) ?_ HT_ rfl rfl (.inl ⟨by rfl, ?_⟩) ?_ ?_ ?_; rotate_left; (focus intro w'; go_simp; with_reducible rfl); rotate_left; (focus simp only [pk]; rfl)
   refine pU 60 63 (bu 73 61) HT_ ?_ ?_ ?_; rotate_left; (focus simp only [pk]; rfl)
   refine pU 61 64 (bu 73 62) HT_ ?_ ?_ ?_; rotate_left; (focus simp only [pk]; rfl)
   refine pU 62 65 (bu 73 63) HT_ ?_ ?_ ?_; rotate_left; (focus simp only [pk]; rfl)
   refine pU 63 66 (bu 73 64) HT_ ?_ ?_ ?_; rotate_left; (focus simp only [pk]; rfl)
   refine pU 64 67 (bu 73 65) HT_ ?_ ?_ ?_; rotate_left; (focus simp only [pk]; rfl)
   refine pA 65 68 (bu 73 66) ?_ HT_ rfl rfl (.inl ⟨by rfl, ?_⟩) ?_ ?_ ?_; rotate_left; (focus intro w'; go_simp; with_reducible rfl); rotate_left; (focus simp only [pk]; rfl)
   refine pA 66 69 (bu 73 67) ?_ HT_ rfl rfl (.inl ⟨by rfl, ?_⟩) ?_ ?_ ?_; rotate_left; (focus intro w'; go_simp; with_reducible rfl); rotate_left; (focus simp only [pk]; rfl)
   refine pU 67 70 (bu 73 68) HT_ ?_ ?_ ?_; rotate_left; (focus simp only [pk]; rfl)
   refine pU 68 71 (bu 73 69) HT_ ?_ ?_ ?_; rotate_left; (focus simp only [pk]; rfl)
   refine pU 69 72 (bu 73 70) HT_ ?_ ?_ ?_; rotate_left; (focus simp only [pk]; rfl)
   refine pU 70 73 (bu 73 71) HT_ ?_ ?_ ?_; rotate_left; (focus simp only [pk]; rfl)
   refine pU 71 74 (bu 73 72) HT_ ?_ ?_ ?_; rotate_left; (focus simp only [pk]; rfl)
   refine pA 72 75 (bu 73 73) ?_ HT_ rfl rfl (.inl ⟨by rfl, ?_⟩) ?_ ?_ ?_; rotate_left; (focus intro w'; go_simp; with_reducible rfl); rotate_left; (focus simp only [pk]; rfl)
   refine done_ (done_of HT_.out (by kernel_rfl)) ?_
   try go_wp2
   go_ret
   exact ⟨by first | rfl | (simp [errW_none, errW_some] <;> rfl) | (simp [*, errW_none, errW_some] <;> rfl), by repeat (first | (with_reducible first | exact HB.out | apply b1 | apply b2 | apply b3 | refine below_set ?_ GE110.out) | exact HB.out)⟩
  ·rw [if_neg c5] at H
   have c5b0 : decide (65535 < a0_0) = false := decide_eq_false c5
   clear c5
   by_cases c8 : (l0_1.length : Int) < 1
   ·rw [if_pos c8] at H
    have c8b0 : decide ((l0_1.length : Int) < 1) = true := decide_eq_true c8
    have c8b1 : decide (l0_1.length < 1) = true := decide_eq_true (by omega)
    clear c8
    obtain rfl := Option.some.inj H
    go_enter Try.func18, Try.ntmps18
    try go_wp2_with (first | ((with_reducible refine gate_dst (N := 1) rfl ?_); (try (refine gate_guard (by rfl) ?_; dsimp only)); refine box_event ?hg (N := 1) ?hd (cs := #[.int .i64 a0_0, .slice A0_1 l0_1.length c0_1, .bool a0_2, .int .i64 a0_3, .int .i64 a0_4, .int .i64 a0_5, .bool a0_6]) (t := 24) ?hr ?_; (case hd => rfl); (case hg => rfl); (case hr => first | (go_simp; done) | (go_simp; rfl)); intro gb110 hg w9 hbox hb; have n0_ := Aside0.mk (below_step (by first | with_reducible exact HB.out | exact sB HB.out) hb); have n1_ := Aside0.mk (hbox); have n2_ := Aside0.mk ((by rw [hg]; exact (below_size (by first | with_reducible exact HB.out | exact sB HB.out)) : w.heap.size ≤ gb110)); have n3_ := Aside0.mk ((by rw [hg]; exact (below_size (by first | with_reducible exact HB.out | exact sB HB.out)) : w.heap.size ≤ gb110)); clear HB; have HB := n0_; have BK110 := n1_; have GW110 := n2_; have GE110 := n3_; clear n0_ n1_ n2_ n3_; clear hb hbox hg))
    have n0_ := Aside0.mk (blk_drew BK110.out)
    have n1_ := Aside0.mk (below_drew1 HB.out)
    clear BK110
    clear HB
    have BK110 := n0_
    have HB := n1_
    clear n0_ n1_
    refine start_ (n := 73) (S := fun w' => w'.cell? ⟨gb110, 0, none⟩ = some (.int .i64 a0_0) ∧ w'.cell? ⟨gb110, 1, none⟩ = some (.slice A0_1 l0_1.length c0_1) ∧ w'.cell? ⟨gb110, 2, none⟩ = some (.bool a0_2) ∧ w'.cell? ⟨gb110, 3, none⟩ = some (.int .i64 a0_3) ∧ w'.cell? ⟨gb110, 4, none⟩ = some (.int .i64 a0_4) ∧ w'.cell? ⟨gb110, 5, none⟩ = some (.int .i64 a0_5) ∧ w'.cell? ⟨gb110, 6, none⟩ = some (.bool a0_6)) (ds := []) (bu 73 0) (by kernel_rfl) rfl rfl ⟨(blk_cell BK110.out 0).trans rfl, (blk_cell BK110.out 1).trans rfl, (blk_cell BK110.out 2).trans rfl, (blk_cell BK110.out 3).trans rfl, (blk_cell BK110.out 4).trans rfl, (blk_cell BK110.out 5).trans rfl, (blk_cell BK110.out 6).trans rfl⟩ (fun hHeld => ?_); refine with_tabW sender_Check.tab1 sender_Check.bits1 (fun HT_ HW_ => ?_)
    generalize w9.drew = w10 at BK110 HB hHeld ⊢
    refine pA 0 3 (bu 73 1) ?_ HT_ rfl rfl (.inl ⟨by rfl, ?_⟩) ?_ ?_ ?_; rotate_left; (focus intro w'; go_simp; with_reducible rfl); rotate_left; (focus simp only [pk]; rfl)
    refine tA 1 4 (bu 73 2) ?_ HT_ HW_ rfl rfl (.inl ⟨by rfl, ?_⟩) hHeld ?_ ?_ ?_; rotate_left; (focus rintro w' ⟨s0, s1, s2, s3, s4, s5, s6⟩; go_simp; with_reducible rfl); rotate_left; (focus simp only [pk]; rfl)
    refine pA 2 5 (bu 73 3) ?_ HT_ rfl rfl (.inl ⟨by rfl, ?_⟩) ?_ ?_ ?_; rotate_left; (focus intro w'; go_simp; with_reducible rfl); rotate_left; (focus simp only [pk]; rfl)
    refine pA 3 6 (bu 73 4) ?_ HT_ rfl rfl (.inl ⟨by rfl, ?_⟩) ?_ ?_ ?_; rotate_left; (focus intro w'; go_simp; with_reducible rfl); rotate_left; (focus simp only [pk]; rfl)
    refine pA 4 7 (bu 73 5) ?_ HT_ rfl rfl (.inl ⟨by rfl, ?_⟩) ?_ ?_ ?_; rotate_left; (focus intro w'; go_simp; with_reducible rfl); rotate_left; (focus simp only [pk]; rfl)
    refine tA 5 8 (bu 73 6) ?_ HT_ HW_ rfl rfl (.inl ⟨by rfl, ?_⟩) hHeld ?_ ?_ ?_; rotate_left; (focus rintro w' ⟨s0, s1, s2, s3, s4, s5, s6⟩; go_simp; with_reducible rfl); rotate_left; (focus simp only [pk]; rfl)
    refine pA 6 9 (bu 73 7) ?_ HT_ rfl rfl (.inl ⟨by rfl, ?_⟩) ?_ ?_ ?_; rotate_left; (focus intro w'; go_simp; with_reducible rfl); rotate_left; (focus simp only [pk]; rfl)
    refine pA 7 10 (bu 73 8) ?_ HT_ rfl rfl (.inl ⟨by rfl, ?_⟩) ?_ ?_ ?_; rotate_left; (focus intro w'; go_simp; with_reducible rfl); rotate_left; (focus simp only [pk]; rfl)
    refine pA 8 11 (bu 73 9) ?_ HT_ rfl rfl (.inl ⟨by rfl, ?_⟩) ?_ ?_ ?_; rotate_left; (focus intro w'; go_simp; with_reducible rfl); rotate_left; (focus simp only [pk]; rfl)
    refine pA 9 12 (bu 73 10) ?_ HT_ rfl rfl (.inl ⟨by rfl, ?_⟩) ?_ ?_ ?_; rotate_left; (focus intro w'; go_simp; with_reducible rfl); rotate_left; (focus simp only [pk]; rfl)
    refine tA 10 13 (bu 73 11) ?_ HT_ HW_ rfl rfl (.inl ⟨by rfl, ?_⟩) hHeld ?_ ?_ ?_; rotate_left; (focus rintro w' ⟨s0, s1, s2, s3, s4, s5, s6⟩; go_simp; with_reducible rfl); rotate_left; (focus simp only [pk]; rfl)
    refine pA 11 14 (bu 73 12) ?_ HT_ rfl rfl (.inl ⟨by rfl, ?_⟩) ?_ ?_ ?_; rotate_left; (focus intro w'; go_simp; with_reducible rfl); rotate_left; (focus simp only [pk]; rfl)
    refine pA 12 15 (bu 73 13) ?_ HT_ rfl rfl (.inl ⟨by rfl, ?_⟩) ?_ ?_ ?_; rotate_left; (focus intro w'; go_simp; with_reducible rfl); rotate_left; (focus simp only [pk]; rfl)
    refine pA 13 16 (bu 73 14) ?_ HT_ rfl rfl (.inl ⟨by rfl, ?_⟩) ?_ ?_ ?_; rotate_left; (focus intro w'; go_simp; with_reducible rfl); rotate_left; (focus simp only [pk]; rfl)
    refine pA 14 17 (bu 73 15) ?_ HT_ rfl rfl (.inl ⟨by rfl, ?_⟩) ?_ ?_ ?_; rotate_left; (focus intro w'; go_simp; with_reducible rfl); rotate_left; (focus simp only [pk]; rfl)
    refine pU 15 18 (bu 73 16) HT_ ?_ ?_ ?_; rotate_left; (focus simp only [pk]; rfl)
    refine pU 16 19 (bu 73 17) HT_ ?_ ?_ ?_; rotate_left; (focus simp only [pk]; rfl)
    refine pU 17 20 (bu 73 18) HT_ ?_ ?_ ?_; rotate_left; (focus simp only [pk]; rfl)
    refine pU 18 21 (bu 73 19) HT_ ?_ ?_ ?_; rotate_left; (focus simp only [pk]; rfl)
    refine pA 19 22 (bu 73 20) ?_ HT_ rfl rfl (.inl ⟨by rfl, ?_⟩) ?_ ?_ ?_; rotate_left; (focus intro w'; go_simp; with_reducible rfl); rotate_left; (focus simp only [pk]; rfl)
    refine pA 20 23 (bu 73 21) ?_ HT_ rfl rfl (.inl ⟨by rfl, ?_⟩) ?_ ?_ ?_; rotate_left; (focus intro w'; go_simp; with_reducible rfl); rotate_left; (focus simp only [pk]; rfl)
    refine pU 21 24 (bu 73 22) HT_ ?_ ?_ ?_; rotate_left; (focus simp only [pk]; rfl)
    refine pU 22 25 (bu 73 23) HT_ ?_ ?_ ?_; rotate_left; (focus simp only [pk]; rfl)
    refine pU 23 26 (bu 73 24) HT_ ?_ ?_ ?_; rotate_left; (focus simp only [pk]; rfl)
    refine pA 24 27 (bu 73 25) ?_ HT_ rfl rfl (.inl ⟨by rfl, ?_⟩) ?_ ?_ ?_; rotate_left; (focus intro w'; go_simp; with_reducible rfl); rotate_left; (focus simp only [pk]; rfl)
    refine pA 25 28 (bu 73 26) ?_ HT_ rfl rfl (.inl ⟨by rfl, ?_⟩) ?_ ?_ ?_; rotate_left; (focus intro w'; go_simp; with_reducible rfl); rotate_left; (focus simp only [pk]; rfl)
    refine pU 26 29 (bu 73 27) HT_ ?_ ?_ ?_; rotate_left; (focus simp only [pk]; rfl)
    refine pU 27 30 (bu 73 28) HT_ ?_ ?_ ?_; rotate_left; (focus simp only [pk]; rfl)
    refine pU 28 31 (bu 73 29) HT_ ?_ ?_ ?_; rotate_left; (focus simp only [pk]; rfl)
    refine pA 29 32 (bu 73 30) ?_ HT_ rfl rfl (.inl ⟨by rfl, ?_⟩) ?_ ?_ ?_; rotate_left; (focus intro w'; go_simp; with_reducible rfl); rotate_left; (focus simp only [pk]; rfl)
    refine pA 30 33 (bu 73 31) ?_ HT_ rfl rfl (.inl ⟨by rfl, ?_⟩) ?_ ?_ ?_; rotate_left; (focus intro w'; go_simp; with_reducible rfl); rotate_left; (focus simp only [pk]; rfl)
    refine pU 31 34 (bu 73 32) HT_ ?_ ?_ ?_; rotate_left; (focus simp only [pk]; rfl)
    refine pU 32 35 (bu 73 33) HT_ ?_ ?_ ?_; rotate_left; (focus simp only [pk]; rfl)
    refine pU 33 36 (bu 73 34) HT_ ?_ ?_ ?_; rotate_left; (focus simp only [pk]; rfl)
    refine pU 34 37 (bu 73 35) HT_ ?_ ?_ ?_; rotate_left; (focus simp only [pk]; rfl)
    refine pU 35 38 (bu 73 36) HT_ ?_ ?_ ?_; rotate_left; (focus simp only [pk]; rfl)
    refine pU 36 39 (bu 73 37) HT_ ?_ ?_ ?_; rotate_left; (focus simp only [pk]; rfl)
    refine pU 37 40 (bu 73 38) HT_ ?_ ?_ ?_; rotate_left; (focus simp only [pk]; rfl)
    refine pU 38 41 (bu 73 39) HT_ ?_ ?_ ?_; rotate_left; (focus simp only [pk]; rfl)
    refine pU 39 42 (bu 73 40) HT_ ?_ ?_ ?_; rotate_left; (focus simp only [pk]; rfl)
    refine pU 40 43 (bu 73 41) HT_ ?_ ?_ ?_; rotate_left; (focus simp only [pk]; rfl)
    refine pU 41 44 (bu 73 42) HT_ ?_ ?_ ?_; rotate_left; (focus simp only [pk]; rfl)
    refine pU 42 45 (bu 73 43) HT_ ?_ ?_ ?_; rotate_left; (focus simp only [pk]; rfl)
    refine pU 43 46 (bu 73 44) HT_ ?_ ?_ ?_; rotate_left; (focus simp only [pk]; rfl)
    refine pA 44 47 (bu 73 45) ?_ HT_ rfl rfl (.inl ⟨by rfl, ?_⟩) ?_ ?_ ?_; rotate_left; (focus intro w'; go_simp; with_reducible rfl); rotate_left; (focus simp only [pk]; rfl)
    refine pA 45 48 (bu 73 46) ?_ HT_ rfl rfl (.inl ⟨by rfl, ?_⟩) ?_ ?_ ?_; rotate_left; (focus intro w'; go_simp; with_reducible rfl); rotate_left; (focus simp only [pk]; rfl)
    refine pU 46 49 (bu 73 47) HT_ ?_ ?_ ?_; rotate_left; (focus simp only [pk]; rfl)
    refine pU 47 50 (bu 73 48) HT_ ?_ ?_ ?_; rotate_left; (focus simp only [pk]; rfl)
    refine pU 48 51 (bu 73 49) HT_ ?_ ?_ ?_; rotate_left; (focus simp only [pk]; rfl)
    refine pA 49 52 (bu 73 50) ?_ HT_ rfl rfl (.inl ⟨by rfl, ?_⟩) ?_ ?_ ?_; rotate_left; (focus intro w'; go_simp; with_reducible rfl); rotate_left; (focus simp only [pk]; rfl)
    refine pA 50 53 (bu 73 51) ?_ HT_ rfl rfl (.inl ⟨by rfl, ?_⟩) ?_ ?_ ?_; rotate_left; (focus intro w'; go_simp; with_reducible rfl); rotate_left; (focus simp only [pk]; rfl)
    refine pU 51 54 (bu 73 52) HT_ ?_ ?_ ?_; rotate_left; (focus simp only [pk]; rfl)
    refine pU 52 55 (bu 73 53) HT_ ?_ ?_ ?_; rotate_left; (focus simp only [pk]; rfl)
    refine pU 53 56 (bu 73 54) HT_ ?_ ?_ ?_; rotate_left; (focus simp only [pk]; rfl)
    refine pU 54 57 (bu 73 55) HT_ ?_ ?_ ?_; rotate_left; (focus simp only [pk]; rfl)
    refine pU 55 58 (bu 73 56) HT_ ?_ ?_ ?_; rotate_left; (focus simp only [pk]; rfl)
    refine pU 56 59 (bu 73 57) HT_ ?_ ?_ ?_; rotate_left; (focus simp only [pk]; rfl)
    refine pU 57 60 (bu 73 58) HT_ ?_ ?_ ?_; rotate_left; (focus simp only [pk]; rfl)
    refine pA 58 61 (bu 73 59) ?_ HT_ rfl rfl (.inl ⟨by rfl, ?_⟩) ?_ ?_ ?_; rotate_left; (focus intro w'; go_simp; with_reducible rfl); rotate_left; (focus simp only [pk]; rfl)
    refine pA 59 62 (bu 73 60) ?_ HT_ rfl rfl (.inl ⟨by rfl, ?_⟩) ?_ ?_ ?_; rotate_left; (focus intro w'; go_simp; with_reducible rfl); rotate_left; (focus simp only [pk]; rfl)
    refine pU 60 63 (bu 73 61) HT_ ?_ ?_ ?_; rotate_left; (focus simp only [pk]; rfl)
    refine pU 61 64 (bu 73 62) HT_ ?_ ?_ ?_; rotate_left; (focus simp only [pk]; rfl)
    refine pU 62 65 (bu 73 63) HT_ ?_ ?_ ?_; rotate_left; (focus simp only [pk]; rfl)
    refine pU 63 66 (bu 73 64) HT_ ?_ ?_ ?_; rotate_left; (focus simp only [pk]; rfl)
    refine pU 64 67 (bu 73 65) HT_ ?_ ?_ ?_; rotate_left; (focus simp only [pk]; rfl)
    refine pA 65 68 (bu 73 66) ?_ HT_ rfl rfl (.inl ⟨by rfl, ?_⟩) ?_ ?_ ?_; rotate_left; (focus intro w'; go_simp; with_reducible rfl); rotate_left; (focus simp only [pk]; rfl)
    refine pA 66 69 (bu 73 67) ?_ HT_ rfl rfl (.inl ⟨by rfl, ?_⟩) ?_ ?_ ?_; rotate_left; (focus intro w'; go_simp; with_reducible rfl); rotate_left; (focus simp only [pk]; rfl)
    refine pU 67 70 (bu 73 68) HT_ ?_ ?_ ?_; rotate_left; (focus simp only [pk]; rfl)
    refine pU 68 71 (bu 73 69) HT_ ?_ ?_ ?_; rotate_left; (focus simp only [pk]; rfl)
    refine pU 69 72 (bu 73 70) HT_ ?_ ?_ ?_; rotate_left; (focus simp only [pk]; rfl)
    refine pU 70 73 (bu 73 71) HT_ ?_ ?_ ?_; rotate_left; (focus simp only [pk]; rfl)
    refine pU 71 74 (bu 73 72) HT_ ?_ ?_ ?_; rotate_left; (focus simp only [pk]; rfl)
    refine pA 72 75 (bu 73 73) ?_ HT_ rfl rfl (.inl ⟨by rfl, ?_⟩) ?_ ?_ ?_; rotate_left; (focus intro w'; go_simp; with_reducible rfl); rotate_left; (focus simp only [pk]; rfl)
    refine done_ (done_of HT_.out (by kernel_rfl)) ?_
    try go_wp2
    go_ret
    exact ⟨by first | rfl | (simp [errW_none, errW_some] <;> rfl) | (simp [*, errW_none, errW_some] <;> rfl), by repeat (first | (with_reducible first | exact HB.out | apply b1 | apply b2 | apply b3 | refine below_set ?_ GE110.out) | exact HB.out)⟩
   ·rw [if_neg c8] at H
    have c8b0 : decide ((l0_1.length : Int) < 1) = false := decide_eq_false c8
    have c8b1 : decide (l0_1.length < 1) = false := decide_eq_false (by omega)
    clear c8
    by_cases c11 : (l0_1.length : Int) > 5000
    ·rw [if_pos c11] at H
     have c11b0 : decide (5000 < (l0_1.length : Int)) = true := decide_eq_true c11
     have c11b1 : decide (5000 < l0_1.length) = true := decide_eq_true (by omega)
     clear c11
     obtain rfl := Option.some.inj H
     go_enter Try.func18, Try.ntmps18
     try go_wp2_with (first | ((with_reducible refine gate_dst (N := 1) rfl ?_); (try (refine gate_guard (by rfl) ?_; dsimp only)); refine box_event ?hg (N := 1) ?hd (cs := #[.int .i64 a0_0, .slice A0_1 l0_1.length c0_1, .bool a0_2, .int .i64 a0_3, .int .i64 a0_4, .int .i64 a0_5, .bool a0_6]) (t := 24) ?hr ?_; (case hd => rfl); (case hg => rfl); (case hr => first | (go_simp; done) | (go_simp; rfl)); intro gb110 hg w12 hbox hb; have n0_ := Aside0.mk (below_step (by first | with_reducible exact HB.out | exact sB HB.out) hb); have n1_ := Aside0.mk (hbox); have n2_ := Aside0.mk ((by rw [hg]; exact (below_size (by first | with_reducible exact HB.out | exact sB HB.out)) : w.heap.size ≤ gb110)); have n3_ := Aside0.mk ((by rw [hg]; exact (below_size (by first | with_reducible exact HB.out | exact sB HB.out)) : w.heap.size ≤ gb110)); clear HB; have HB := n0_; have BK110 := n1_; have GW110 := n2_; have GE110 := n3_; clear n0_ n1_ n2_ n3_; clear hb hbox hg))
     have n0_ := Aside0.mk (blk_drew BK110.out)
     have n1_ := Aside0.mk (below_drew1 HB.out)
     clear BK110
     clear HB
     have BK110 := n0_
     have HB := n1_
     clear n0_ n1_
     refine start_ (n := 73) (S := fun w' => w'.cell? ⟨gb110, 0, none⟩ = some (.int .i64 a0_0) ∧ w'.cell? ⟨gb110, 1, none⟩ = some (.slice A0_1 l0_1.length c0_1) ∧ w'.cell? ⟨gb110, 2, none⟩ = some (.bool a0_2) ∧ w'.cell? ⟨gb110, 3, none⟩ = some (.int .i64 a0_3) ∧ w'.cell? ⟨gb110, 4, none⟩ = some (.int .i64 a0_4) ∧ w'.cell? ⟨gb110, 5, none⟩ = some (.int .i64 a0_5) ∧ w'.cell? ⟨gb110, 6, none⟩ = some (.bool a0_6)) (ds := []) (bu 73 0) (by kernel_rfl) rfl rfl ⟨(blk_cell BK110.out 0).trans rfl, (blk_cell BK110.out 1).trans rfl, (blk_cell BK110.out 2).trans rfl, (blk_cell BK110.out 3).trans rfl, (blk_cell BK110.out 4).trans rfl, (blk_cell BK110.out 5).trans rfl, (blk_cell BK110.out 6).trans rfl⟩ (fun hHeld => ?_); refine with_tabW sender_Check.tab1 sender_Check.bits1 (fun HT_ HW_ => ?_)
     generalize w12.drew = w13 at BK110 HB hHeld ⊢
     refine pA 0 3 (bu 73 1) ?_ HT_ rfl rfl (.inl ⟨by rfl, ?_⟩) ?_ ?_ ?_; rotate_left; (focus intro w'; go_simp; with_reducible rfl); rotate_left; (focus simp only [pk]; rfl)
     refine tA 1 4 (bu 73 2) ?_ HT_ HW_ rfl rfl (.inl ⟨by rfl, ?_⟩) hHeld ?_ ?_ ?_; rotate_left; (focus rintro w' ⟨s0, s1, s2, s3, s4, s5, s6⟩; go_simp; with_reducible rfl); rotate_left; (focus simp only [pk]; rfl)
     refine pA 2 5 (bu 73 3) ?_ HT_ rfl rfl (.inl ⟨by rfl, ?_⟩) ?_ ?_ ?_; rotate_left; (focus intro w'; go_simp; with_reducible rfl); rotate_left; (focus simp only [pk]; rfl)
     refine pA 3 6 (bu 73 4) ?_ HT_ rfl rfl (.inl ⟨by rfl, ?_⟩) ?_ ?_ ?_; rotate_left; (focus intro w'; go_simp; with_reducible rfl); rotate_left; (focus simp only [pk]; rfl)
     refine pA 4 7 (bu 73 5) ?_ HT_ rfl rfl (.inl ⟨by rfl, ?_⟩) ?_ ?_ ?_; rotate_left; (focus intro w'; go_simp; with_reducible rfl); rotate_left; (focus simp only [pk]; rfl)
     refine tA 5 8 (bu 73 6) ?_ HT_ HW_ rfl rfl (.inl ⟨by rfl, ?_⟩) hHeld ?_ ?_ ?_; rotate_left; (focus rintro w' ⟨s0, s1, s2, s3, s4, s5, s6⟩; go_simp; with_reducible rfl); rotate_left; (focus simp only [pk]; rfl)
     refine pA 6 9 (bu 73 7) ?_ HT_ rfl rfl (.inl ⟨by rfl, ?_⟩) ?_ ?_ ?_; rotate_left; (focus intro w'; go_simp; with_reducible rfl); rotate_left; (focus simp only [pk]; rfl)
     refine pA 7 10 (bu 73 8) ?_ HT_ rfl rfl (.inl ⟨by rfl, ?_⟩) ?_ ?_ ?_; rotate_left; (focus intro w'; go_simp; with_reducible rfl); rotate_left; (focus simp only [pk]; rfl)
     refine pA 8 11 (bu 73 9) ?_ HT_ rfl rfl (.inl ⟨by rfl, ?_⟩) ?_ ?_ ?_; rotate_left; (focus intro w'; go_simp; with_reducible rfl); rotate_left; (focus simp only [pk]; rfl)
     refine pA 9 12 (bu 73 10) ?_ HT_ rfl rfl (.inl ⟨by rfl, ?_⟩) ?_ ?_ ?_; rotate_left; (focus intro w'; go_simp; with_reducible rfl); rotate_left; (focus simp only [pk]; rfl)
     refine tA 10 13 (bu 73 11) ?_ HT_ HW_ rfl rfl (.inl ⟨by rfl, ?_⟩) hHeld ?_ ?_ ?_; rotate_left; (focus rintro w' ⟨s0, s1, s2, s3, s4, s5, s6⟩; go_simp; with_reducible rfl); rotate_left; (focus simp only [pk]; rfl)
     refine pA 11 14 (bu 73 12) ?_ HT_ rfl rfl (.inl ⟨by rfl, ?_⟩) ?_ ?_ ?_; rotate_left; (focus intro w'; go_simp; with_reducible rfl); rotate_left; (focus simp only [pk]; rfl)
     refine pA 12 15 (bu 73 13) ?_ HT_ rfl rfl (.inl ⟨by rfl, ?_⟩) ?_ ?_ ?_; rotate_left; (focus intro w'; go_simp; with_reducible rfl); rotate_left; (focus simp only [pk]; rfl)
     refine pA 13 16 (bu 73 14) ?_ HT_ rfl rfl (.inl ⟨by rfl, ?_⟩) ?_ ?_ ?_; rotate_left; (focus intro w'; go_simp; with_reducible rfl); rotate_left; (focus simp only [pk]; rfl)
     refine pA 14 17 (bu 73 15) ?_ HT_ rfl rfl (.inl ⟨by rfl, ?_⟩) ?_ ?_ ?_; rotate_left; (focus intro w'; go_simp; with_reducible rfl); rotate_left; (focus simp only [pk]; rfl)
     refine pA 15 18 (bu 73 16) ?_ HT_ rfl rfl (.inl ⟨by rfl, ?_⟩) ?_ ?_ ?_; rotate_left; (focus intro w'; go_simp; with_reducible rfl); rotate_left; (focus simp only [pk]; rfl)
     refine tA 16 19 (bu 73 17) ?_ HT_ HW_ rfl rfl (.inl ⟨by rfl, ?_⟩) hHeld ?_ ?_ ?_; rotate_left; (focus rintro w' ⟨s0, s1, s2, s3, s4, s5, s6⟩; go_simp; with_reducible rfl); rotate_left; (focus simp only [pk]; rfl)
     refine pA 17 20 (bu 73 18) ?_ HT_ rfl rfl (.inl ⟨by rfl, ?_⟩) ?_ ?_ ?_; rotate_left; (focus intro w'; go_simp; with_reducible rfl); rotate_left; (focus simp only [pk]; rfl)
     refine pA 18 21 (bu 73 19) ?_ HT_ rfl rfl (.inl ⟨by rfl, ?_⟩) ?_ ?_ ?_; rotate_left; (focus intro w'; go_simp; with_reducible rfl); rotate_left; (focus simp only [pk]; rfl)
     refine pA 19 22 (bu 73 20) ?_ HT_ rfl rfl (.inl ⟨by rfl, ?_⟩) ?_ ?_ ?_; rotate_left; (focus intro w'; go_simp; with_reducible rfl); rotate_left; (focus simp only [pk]; rfl)
     refine pA 20 23 (bu 73 21) ?_ HT_ rfl rfl (.inl ⟨by rfl, ?_⟩) ?_ ?_ ?_; rotate_left; (focus intro w'; go_simp; with_reducible rfl); rotate_left; (focus simp only [pk]; rfl)
     refine pU 21 24 (bu 73 22) HT_ ?_ ?_ ?_; rotate_left; (focus simp only [pk]; rfl)
     refine pU 22 25 (bu 73 23) HT_ ?_ ?_ ?_; rotate_left; (focus simp only [pk]; rfl)
     refine pU 23 26 (bu 73 24) HT_ ?_ ?_ ?_; rotate_left; (focus simp only [pk]; rfl)
     refine pA 24 27 (bu 73 25) ?_ HT_ rfl rfl (.inl ⟨by rfl, ?_⟩) ?_ ?_ ?_; rotate_left; (focus intro w'; go_simp; with_reducible rfl); rotate_left; (focus simp only [pk]; rfl)
     refine pA 25 28 (bu 73 26) ?_ HT_ rfl rfl (.inl ⟨by rfl, ?_⟩) ?_ ?_ ?_; rotate_left; (focus intro w'; go_simp; with_reducible rfl); rotate_left; (focus simp only [pk]; rfl)
     refine pU 26 29 (bu 73 27) HT_ ?_ ?_ ?_; rotate_left; (focus simp only [pk]; rfl)
     refine pU 27 30 (bu 73 28) HT_ ?_ ?_ ?_; rotate_left; (focus simp only [pk]; rfl)
     refine pU 28 31 (bu 73 29) HT_ ?_ ?_ ?_; rotate_left; (focus simp only [pk]; rfl)
     refine pA 29 32 (bu 73 30) ?_ HT_ rfl rfl (.inl ⟨by rfl, ?_⟩) ?_ ?_ ?_; rotate_left; (focus intro w'; go_simp; with_reducible rfl); rotate_left; (focus simp only [pk]; rfl)
     refine pA 30 33 (bu 73 31) ?_ HT_ rfl rfl (.inl ⟨by rfl, ?_⟩) ?_ ?_ ?_; rotate_left; (focus intro w'; go_simp; with_reducible rfl); rotate_left; (focus simp only [pk]; rfl)
     refine pU 31 34 (bu 73 32) HT_ ?_ ?_ ?_; rotate_left; (focus simp only [pk]; rfl)
     refine pU 32 35 (bu 73 33) HT_ ?_ ?_ ?_; rotate_left; (focus simp only [pk]; rfl)
     refine pU 33 36 (bu 73 34) HT_ ?_ ?_ ?_; rotate_left; (focus simp only [pk]; rfl)
     refine pU 34 37 (bu 73 35) HT_ ?_ ?_ ?_; rotate_left; (focus simp only [pk]; rfl)
     refine pU 35 38 (bu 73 36) HT_ ?_ ?_ ?_; rotate_left; (focus simp only [pk]; rfl)
     refine pU 36 39 (bu 73 37) HT_ ?_ ?_ ?_; rotate_left; (focus simp only [pk]; rfl)
     refine pU 37 40 (bu 73 38) HT_ ?_ ?_ ?_; rotate_left; (focus simp only [pk]; rfl)
     refine pU 38 41 (bu 73 39) HT_ ?_ ?_ ?_; rotate_left; (focus simp only [pk]; rfl)
     refine pU 39 42 (bu 73 40) HT_ ?_ ?_ ?_; rotate_left; (focus simp only [pk]; rfl)
     refine pU 40 43 (bu 73 41) HT_ ?_ ?_ ?_; rotate_left; (focus simp only [pk]; rfl)
     refine pU 41 44 (bu 73 42) HT_ ?_ ?_ ?_; rotate_left; (focus simp only [pk]; rfl)
     refine pU 42 45 (bu 73 43) HT_ ?_ ?_ ?_; rotate_left; (focus simp only [pk]; rfl)
     refine pU 43 46 (bu 73 44) HT_ ?_ ?_ ?_; rotate_left; (focus simp only [pk]; rfl)
     refine pA 44 47 (bu 73 45) ?_ HT_ rfl rfl (.inl ⟨by rfl, ?_⟩) ?_ ?_ ?_; rotate_left; (focus intro w'; go_simp; with_reducible rfl); rotate_left; (focus simp only [pk]; rfl)
     refine pA 45 48 (bu 73 46) ?_ HT_ rfl rfl (.inl ⟨by rfl, ?_⟩) ?_ ?_ ?_; rotate_left; (focus intro w'; go_simp; with_reducible rfl); rotate_left; (focus simp only [pk]; rfl)
     refine pU 46 49 (bu 73 47) HT_ ?_ ?_ ?_; rotate_left; (focus simp only [pk]; rfl)
     refine pU 47 50 (bu 73 48) HT_ ?_ ?_ ?_; rotate_left; (focus simp only [pk]; rfl)
     refine pU 48 51 (bu 73 49) HT_ ?_ ?_ ?_; rotate_left; (focus simp only [pk]; rfl)
     refine pA 49 52 (bu 73 50) ?_ HT_ rfl rfl (.inl ⟨by rfl, ?_⟩) ?_ ?_ ?_; rotate_left; (focus intro w'; go_simp; with_reducible rfl); rotate_left; (focus simp only [pk]; rfl)
     refine pA 50 53 (bu 73 51) ?_ HT_ rfl rfl (.inl ⟨by rfl, ?_⟩) ?_ ?_ ?_; rotate_left; (focus intro w'; go_simp; with_reducible rfl); rotate_left; (focus simp only [pk]; rfl)
     refine pU 51 54 (bu 73 52) HT_ ?_ ?_ ?_; rotate_left; (focus simp only [pk]; rfl)
     refine pU 52 55 (bu 73 53) HT_ ?_ ?_ ?_; rotate_left; (focus simp only [pk]; rfl)
     refine pU 53 56 (bu 73 54) HT_ ?_ ?_ ?_; rotate_left; (focus simp only [pk]; rfl)
     refine pU 54 57 (bu 73 55) HT_ ?_ ?_ ?_; rotate_left; (focus simp only [pk]; rfl)
     refine pU 55 58 (bu 73 56) HT_ ?_ ?_ ?_; rotate_left; (focus simp only [pk]; rfl)
     refine pU 56 59 (bu 73 57) HT_ ?_ ?_ ?_; rotate_left; (focus simp only [pk]; rfl)
     refine pU 57 60 (bu 73 58) HT_ ?_ ?_ ?_; rotate_left; (focus simp only [pk]; rfl)
     refine pA 58 61 (bu 73 59) ?_ HT_ rfl rfl (.inl ⟨by rfl, ?_⟩) ?_ ?_ ?_; rotate_left; (focus intro w'; go_simp; with_reducible rfl); rotate_left; (focus simp only [pk]; rfl)
     refine pA 59 62 (bu 73 60) ?_ HT_ rfl rfl (.inl ⟨by rfl, ?_⟩) ?_ ?_ ?_; rotate_left; (focus intro w'; go_simp; with_reducible rfl); rotate_left; (focus simp only [pk]; rfl)
     refine pU 60 63 (bu 73 61) HT_ ?_ ?_ ?_; rotate_left; (focus simp only [pk]; rfl)
     refine pU 61 64 (bu 73 62) HT_ ?_ ?_ ?_; rotate_left; (focus simp only [pk]; rfl)
     refine pU 62 65 (bu 73 63) HT_ ?_ ?_ ?_; rotate_left; (focus simp only [pk]; rfl)
     refine pU 63 66 (bu 73 64) HT_ ?_ ?_ ?_; rotate_left; (focus simp only [pk]; rfl)
     refine pU 64 67 (bu 73 65) HT_ ?_ ?_ ?_; rotate_left; (focus simp only [pk]; rfl)
     refine pA 65 68 (bu 73 66) ?_ HT_ rfl rfl (.inl ⟨by rfl, ?_⟩) ?_ ?_ ?_; rotate_left; (focus intro w'; go_simp; with_reducible rfl); rotate_left; (focus simp only [pk]; rfl)
     refine pA 66 69 (bu 73 67) ?_ HT_ rfl rfl (.inl ⟨by rfl, ?_⟩) ?_ ?_ ?_; rotate_left; (focus intro w'; go_simp; with_reducible rfl); rotate_left; (focus simp only [pk]; rfl)
     refine pU 67 70 (bu 73 68) HT_ ?_ ?_ ?_; rotate_left; (focus simp only [pk]; rfl)
     refine pU 68 71 (bu 73 69) HT_ ?_ ?_ ?_; rotate_left; (focus simp only [pk]; rfl)
     refine pU 69 72 (bu 73 70) HT_ ?_ ?_ ?_; rotate_left; (focus simp only [pk]; rfl)
     refine pU 70 73 (bu 73 71) HT_ ?_ ?_ ?_; rotate_left; (focus simp only [pk]; rfl)
     refine pU 71 74 (bu 73 72) HT_ ?_ ?_ ?_; rotate_left; (focus simp only [pk]; rfl)
     refine pA 72 75 (bu 73 73) ?_ HT_ rfl rfl (.inl ⟨by rfl, ?_⟩) ?_ ?_ ?_; rotate_left; (focus intro w'; go_simp; with_reducible rfl); rotate_left; (focus simp only [pk]; rfl)
     refine done_ (done_of HT_.out (by kernel_rfl)) ?_
     try go_wp2
     go_ret
     exact ⟨by first | rfl | (simp [errW_none, errW_some] <;> rfl) | (simp [*, errW_none, errW_some] <;> rfl), by repeat (first | (with_reducible first | exact HB.out | apply b1 | apply b2 | apply b3 | refine below_set ?_ GE110.out) | exact HB.out)⟩
    ·rw [if_neg c11] at H
     have c11b0 : decide (5000 < (l0_1.length : Int)) = false := decide_eq_false c11
     have c11b1 : decide (5000 < l0_1.length) = false := decide_eq_false (by omega)
     clear c11
     by_cases c14 : a0_5 < 0
     ·rw [if_pos c14] at H
      have c14b0 : decide (a0_5 < 0) = true := decide_eq_true c14
      clear c14
      obtain rfl := Option.some.inj H
      go_enter Try.func18, Try.ntmps18
      try go_wp2_with (first | ((with_reducible refine gate_dst (N := 1) rfl ?_); (try (refine gate_guard (by rfl) ?_; dsimp only)); refine box_event ?hg (N := 1) ?hd (cs := #[.int .i64 a0_0, .slice A0_1 l0_1.length c0_1, .bool a0_2, .int .i64 a0_3, .int .i64 a0_4, .int .i64 a0_5, .bool a0_6]) (t := 24) ?hr ?_; (case hd => rfl); (case hg => rfl); (case hr => first | (go_simp; done) | (go_simp; rfl)); intro gb110 hg w15 hbox hb; have n0_ := Aside0.mk (below_step (by first | with_reducible exact HB.out | exact sB HB.out) hb); have n1_ := Aside0.mk (hbox); have n2_ := Aside0.mk ((by rw [hg]; exact (below_size (by first | with_reducible exact HB.out | exact sB HB.out)) : w.heap.size ≤ gb110)); have n3_ := Aside0.mk ((by rw [hg]; exact (below_size (by first | with_reducible exact HB.out | exact sB HB.out)) : w.heap.size ≤ gb110)); clear HB; have HB := n0_; have BK110 := n1_; have GW110 := n2_; have GE110 := n3_; clear n0_ n1_ n2_ n3_; clear hb hbox hg))
      have n0_ := Aside0.mk (blk_drew BK110.out)
      have n1_ := Aside0.mk (below_drew1 HB.out)
      clear BK110
      clear HB
      have BK110 := n0_
      have HB := n1_
      clear n0_ n1_
      refine start_ (n := 73) (S := fun w' => w'.cell? ⟨gb110, 0, none⟩ = some (.int .i64 a0_0) ∧ w'.cell? ⟨gb110, 1, none⟩ = some (.slice A0_1 l0_1.length c0_1) ∧ w'.cell? ⟨gb110, 2, none⟩ = some (.bool a0_2) ∧ w'.cell? ⟨gb110, 3, none⟩ = some (.int .i64 a0_3) ∧ w'.cell? ⟨gb110, 4, none⟩ = some (.int .i64 a0_4) ∧ w'.cell? ⟨gb110, 5, none⟩ = some (.int .i64 a0_5) ∧ w'.cell? ⟨gb110, 6, none⟩ = some (.bool a0_6)) (ds := []) (bu 73 0) (by kernel_rfl) rfl rfl ⟨(blk_cell BK110.out 0).trans rfl, (blk_cell BK110.out 1).trans rfl, (blk_cell BK110.out 2).trans rfl, (blk_cell BK110.out 3).trans rfl, (blk_cell BK110.out 4).trans rfl, (blk_cell BK110.out 5).trans rfl, (blk_cell BK110.out 6).trans rfl⟩ (fun hHeld => ?_); refine with_tabW sender_Check.tab1 sender_Check.bits1 (fun HT_ HW_ => ?_)
      generalize w15.drew = w16 at BK110 HB hHeld ⊢
      refine pA 0 3 (bu 73 1) ?_ HT_ rfl rfl (.inl ⟨by rfl, ?_⟩) ?_ ?_ ?_; rotate_left; (focus intro w'; go_simp; with_reducible rfl); rotate_left; (focus simp only [pk]; rfl)
      refine tA 1 4 (bu 73 2) ?_ HT_ HW_ rfl rfl (.inl ⟨by rfl, ?_⟩) hHeld ?_ ?_ ?_; rotate_left; (focus rintro w' ⟨s0, s1, s2, s3, s4, s5, s6⟩; go_simp; with_reducible rfl); rotate_left; (focus simp only [pk]; rfl)
      refine pA 2 5 (bu 73 3) ?_ HT_ rfl rfl (.inl ⟨by rfl, ?_⟩) ?_ ?_ ?_; rotate_left; (focus intro w'; go_simp; with_reducible rfl); rotate_left; (focus simp only [pk]; rfl)
      refine pA 3 6 (bu 73 4) ?_ HT_ rfl rfl (.inl ⟨by rfl, ?_⟩) ?_ ?_ ?_; rotate_left; (focus intro w'; go_simp; with_reducible rfl); rotate_left; (focus simp only [pk]; rfl)
      refine pA 4 7 (bu 73 5) ?_ HT_ rfl rfl (.inl ⟨by rfl, ?_⟩) ?_ ?_ ?_; rotate_left; (focus intro w'; go_simp; with_reducible rfl); rotate_left; (focus simp only [pk]; rfl)
      refine tA 5 8 (bu 73 6) ?_ HT_ HW_ rfl rfl (.inl ⟨by rfl, ?_⟩) hHeld ?_ ?_ ?_; rotate_left; (focus rintro w' ⟨s0, s1, s2, s3, s4, s5, s6⟩; go_simp; with_reducible rfl); rotate_left; (focus simp only [pk]; rfl)
      refine pA 6 9 (bu 73 7) ?_ HT_ rfl rfl (.inl ⟨by rfl, ?_⟩) ?_ ?_ ?_; rotate_left; (focus intro w'; go_simp; with_reducible rfl); rotate_left; (focus simp only [pk]; rfl)
      refine pA 7 10 (bu 73 8) ?_ HT_ rfl rfl (.inl ⟨by rfl, ?_⟩) ?_ ?_ ?_; rotate_left; (focus intro w'; go_simp; with_reducible rfl); rotate_left; (focus simp only [pk]; rfl)
      refine pA 8 11 (bu 73 9) ?_ HT_ rfl rfl (.inl ⟨by rfl, ?_⟩) ?_ ?_ ?_; rotate_left; (focus intro w'; go_simp; with_reducible rfl); rotate_left; (focus simp only [pk]; rfl)
      refine pA 9 12 (bu 73 10) ?_ HT_ rfl rfl (.inl ⟨by rfl, ?_⟩) ?_ ?_ ?_; rotate_left; (focus intro w'; go_simp; with_reducible rfl); rotate_left; (focus simp only [pk]; rfl)
      refine tA 10 13 (bu 73 11) ?_ HT_ HW_ rfl rfl (.inl ⟨by rfl, ?_⟩) hHeld ?_ ?_ ?_; rotate_left; (focus rintro w' ⟨s0, s1, s2, s3, s4, s5, s6⟩; go_simp; with_reducible rfl); rotate_left; (focus simp only [pk]; rfl)
      refine pA 11 14 (bu 73 12) ?_ HT_ rfl rfl (.inl ⟨by rfl, ?_⟩) ?_ ?_ ?_; rotate_left; (focus intro w'; go_simp; with_reducible rfl); rotate_left; (focus simp only [pk]; rfl)
      refine pA 12 15 (bu 73 13) ?_ HT_ rfl rfl (.inl ⟨by rfl, ?_⟩) ?_ ?_ ?_; rotate_left; (focus intro w'; go_simp; with_reducible rfl); rotate_left; (focus simp only [pk]; rfl)
      refine pA 13 16 (bu 73 14) ?_ HT_ rfl rfl (.inl ⟨by rfl, ?_⟩) ?_ ?_ ?_; rotate_left; (focus intro w'; go_simp; with_reducible rfl); rotate_left; (focus simp only [pk]; rfl)
      refine pA 14 17 (bu 73 15) ?_ HT_ rfl rfl (.inl ⟨by rfl, ?_⟩) ?_ ?_ ?_; rotate_left; (focus intro w'; go_simp; with_reducible rfl); rotate_left; (focus simp only [pk]; rfl)
      refine pA 15 18 (bu 73 16) ?_ HT_ rfl rfl (.inl ⟨by rfl, ?_⟩) ?_ ?_ ?_; rotate_left; (focus intro w'; go_simp; with_reducible rfl); rotate_left; (focus simp only [pk]; rfl)
      refine tA 16 19 (bu 73 17) ?_ HT_ HW_ rfl rfl (.inl ⟨by rfl, ?_⟩) hHeld ?_ ?_ ?_; rotate_left; (focus rintro w' ⟨s0, s1, s2, s3, s4, s5, s6⟩; go_simp; with_reducible rfl); rotate_left; (focus simp only [pk]; rfl)
      refine pA 17 20 (bu 73 18) ?_ HT_ rfl rfl (.inl ⟨by rfl, ?_⟩) ?_ ?_ ?_; rotate_left; (focus intro w'; go_simp; with_reducible rfl); rotate_left; (focus simp only [pk]; rfl)
      refine pA 18 21 (bu 73 19) ?_ HT_ rfl rfl (.inl ⟨by rfl, ?_⟩) ?_ ?_ ?_; rotate_left; (focus intro w'; go_simp; with_reducible rfl); rotate_left; (focus simp only [pk]; rfl)
      refine pA 19 22 (bu 73 20) ?_ HT_ rfl rfl (.inl ⟨by rfl, ?_⟩) ?_ ?_ ?_; rotate_left; (focus intro w'; go_simp; with_reducible rfl); rotate_left; (focus simp only [pk]; rfl)
      refine pA 20 23 (bu 73 21) ?_ HT_ rfl rfl (.inl ⟨by rfl, ?_⟩) ?_ ?_ ?_; rotate_left; (focus intro w'; go_simp; with_reducible rfl); rotate_left; (focus simp only [pk]; rfl)
      refine pA 21 24 (bu 73 22) ?_ HT_ rfl rfl (.inl ⟨by rfl, ?_⟩) ?_ ?_ ?_; rotate_left; (focus intro w'; go_simp; with_reducible rfl); rotate_left; (focus simp only [pk]; rfl)
      refine tA 22 25 (bu 73 23) ?_ HT_ HW_ rfl rfl (.inl ⟨by rfl, ?_⟩) hHeld ?_ ?_ ?_; rotate_left; (focus rintro w' ⟨s0, s1, s2, s3, s4, s5, s6⟩; go_simp; with_reducible rfl); rotate_left; (focus simp only [pk]; rfl)
      refine pA 23 26 (bu 73 24) ?_ HT_ rfl rfl (.inl ⟨by rfl, ?_⟩) ?_ ?_ ?_; rotate_left; (focus intro w'; go_simp; with_reducible rfl); rotate_left; (focus simp only [pk]; rfl)
      refine pA 24 27 (bu 73 25) ?_ HT_ rfl rfl (.inl ⟨by rfl, ?_⟩) ?_ ?_ ?_; rotate_left; (focus intro w'; go_simp; with_reducible rfl); rotate_left; (focus simp only [pk]; rfl)
      refine pA 25 28 (bu 73 26) ?_ HT_ rfl rfl (.inl ⟨by rfl, ?_⟩) ?_ ?_ ?_; rotate_left; (focus intro w'; go_simp; with_reducible rfl); rotate_left; (focus simp only [pk]; rfl)
      refine pU 26 29 (bu 73 27) HT_ ?_ ?_ ?_; rotate_left; (focus simp only [pk]; rfl)
      refine pU 27 30 (bu 73 28) HT_ ?_ ?_ ?_; rotate_left; (focus simp only [pk]; rfl)
      refine pU 28 31 (bu 73 29) HT_ ?_ ?_ ?_; rotate_left; (focus simp only [pk]; rfl)
      refine pA 29 32 (bu 73 30) ?_ HT_ rfl rfl (.inl ⟨by rfl, ?_⟩) ?_ ?_ ?_; rotate_left; (focus intro w'; go_simp; with_reducible rfl); rotate_left; (focus simp only [pk]; rfl)
      refine pA 30 33 (bu 73 31) ?_ HT_ rfl rfl (.inl ⟨by rfl, ?_⟩) ?_ ?_ ?_; rotate_left; (focus intro w'; go_simp; with_reducible rfl); rotate_left; (focus simp only [pk]; rfl)
      refine pU 31 34 (bu 73 32) HT_ ?_ ?_ ?_; rotate_left; (focus simp only [pk]; rfl)
      refine pU 32 35 (bu 73 33) HT_ ?_ ?_ ?_; rotate_left; (focus simp only [pk]; rfl)
      refine pU 33 36 (bu 73 34) HT_ ?_ ?_ ?_; rotate_left; (focus simp only [pk]; rfl)
      refine pU 34 37 (bu 73 35) HT_ ?_ ?_ ?_; rotate_left; (focus simp only [pk]; rfl)
      refine pU 35 38 (bu 73 36) HT_ ?_ ?_ ?_; rotate_left; (focus simp only [pk]; rfl)
      refine pU 36 39 (bu 73 37) HT_ ?_ ?_ ?_; rotate_left; (focus simp only [pk]; rfl)
      refine pU 37 40 (bu 73 38) HT_ ?_ ?_ ?_; rotate_left; (focus simp only [pk]; rfl)
      refine pU 38 41 (bu 73 39) HT_ ?_ ?_ ?_; rotate_left; (focus simp only [pk]; rfl)
      refine pU 39 42 (bu 73 40) HT_ ?_ ?_ ?_; rotate_left; (focus simp only [pk]; rfl)
      refine pU 40 43 (bu 73 41) HT_ ?_ ?_ ?_; rotate_left; (focus simp only [pk]; rfl)
      refine pU 41 44 (bu 73 42) HT_ ?_ ?_ ?_; rotate_left; (focus simp only [pk]; rfl)
      refine pU 42 45 (bu 73 43) HT_ ?_ ?_ ?_; rotate_left; (focus simp only [pk]; rfl)
      refine pU 43 46 (bu 73 44) HT_ ?_ ?_ ?_; rotate_left; (focus simp only [pk]; rfl)
      refine pA 44 47 (bu 73 45) ?_ HT_ rfl rfl (.inl ⟨by rfl, ?_⟩) ?_ ?_ ?_; rotate_left; (focus intro w'; go_simp; with_reducible rfl); rotate_left; (focus simp only [pk]; rfl)
      refine pA 45 48 (bu 73 46) ?_ HT_ rfl rfl (.inl ⟨by rfl, ?_⟩) ?_ ?_ ?_; rotate_left; (focus intro w'; go_simp; with_reducible rfl); rotate_left; (focus simp only [pk]; rfl)
      refine pU 46 49 (bu 73 47) HT_ ?_ ?_ ?_; rotate_left; (focus simp only [pk]; rfl)
      refine pU 47 50 (bu 73 48) HT_ ?_ ?_ ?_; rotate_left; (focus simp only [pk]; rfl)
      refine pU 48 51 (bu 73 49) HT_ ?_ ?_ ?_; rotate_left; (focus simp only [pk]; rfl)
      refine pA 49 52 (bu 73 50) ?_ HT_ rfl rfl (.inl ⟨by rfl, ?_⟩) ?_ ?_ ?_; rotate_left; (focus intro w'; go_simp; with_reducible rfl); rotate_left; (focus simp only [pk]; rfl)
      refine pA 50 53 (bu 73 51) ?_ HT_ rfl rfl (.inl ⟨by rfl, ?_⟩) ?_ ?_ ?_; rotate_left; (focus intro w'; go_simp; with_reducible rfl); rotate_left; (focus simp only [pk]; rfl)
      refine pU 51 54 (bu 73 52) HT_ ?_ ?_ ?_; rotate_left; (focus simp only [pk]; rfl)
      refine pU 52 55 (bu 73 53) HT_ ?_ ?_ ?_; rotate_left; (focus simp only [pk]; rfl)
      refine pU 53 56 (bu 73 54) HT_ ?_ ?_ ?_; rotate_left; (focus simp only [pk]; rfl)
      refine pU 54 57 (bu 73 55) HT_ ?_ ?_ ?_; rotate_left; (focus simp only [pk]; rfl)
      refine pU 55 58 (bu 73 56) HT_ ?_ ?_ ?_; rotate_left; (focus simp only [pk]; rfl)
      refine pU 56 59 (bu 73 57) HT_ ?_ ?_ ?_; rotate_left; (focus simp only [pk]; rfl)
      refine pU 57 60 (bu 73 58) HT_ ?_ ?_ ?_; rotate_left; (focus simp only [pk]; rfl)
      refine pA 58 61 (bu 73 59) ?_ HT_ rfl rfl (.inl ⟨by rfl, ?_⟩) ?_ ?_ ?_; rotate_left; (focus intro w'; go_simp; with_reducible rfl); rotate_left; (focus simp only [pk]; rfl)
      refine pA 59 62 (bu 73 60) ?_ HT_ rfl rfl (.inl ⟨by rfl, ?_⟩) ?_ ?_ ?_; rotate_left; (focus intro w'; go_simp; with_reducible rfl); rotate_left; (focus simp only [pk]; rfl)
      refine pU 60 63 (bu 73 61) HT_ ?_ ?_ ?_; rotate_left; (focus simp only [pk]; rfl)
      refine pU 61 64 (bu 73 62) HT_ ?_ ?_ ?_; rotate_left; (focus simp only [pk]; rfl)
      refine pU 62 65 (bu 73 63) HT_ ?_ ?_ ?_; rotate_left; (focus simp only [pk]; rfl)
      refine pU 63 66 (bu 73 64) HT_ ?_ ?_ ?_; rotate_left; (focus simp only [pk]; rfl)
      refine pU 64 67 (bu 73 65) HT_ ?_ ?_ ?_; rotate_left; (focus simp only [pk]; rfl)
      refine pA 65 68 (bu 73 66) ?_ HT_ rfl rfl (.inl ⟨by rfl, ?_⟩) ?_ ?_ ?_; rotate_left; (focus intro w'; go_simp; with_reducible rfl); rotate_left; (focus simp only [pk]; rfl)
      refine pA 66 69 (bu 73 67) ?_ HT_ rfl rfl (.inl ⟨by rfl, ?_⟩) ?_ ?_ ?_; rotate_left; (focus intro w'; go_simp; with_reducible rfl); rotate_left; (focus simp only [pk]; rfl)
      refine pU 67 70 (bu 73 68) HT_ ?_ ?_ ?_; rotate_left; (focus simp only [pk]; rfl)
      refine pU 68 71 (bu 73 69) HT_ ?_ ?_ ?_; rotate_left; (focus simp only [pk]; rfl)
      refine pU 69 72 (bu 73 70) HT_ ?_ ?_ ?_; rotate_left; (focus simp only [pk]; rfl)
      refine pU 70 73 (bu 73 71) HT_ ?_ ?_ ?_; rotate_left; (focus simp only [pk]; rfl)
      refine pU 71 74 (bu 73 72) HT_ ?_ ?_ ?_; rotate_left; (focus simp only [pk]; rfl)
      refine pA 72 75 (bu 73 73) ?_ HT_ rfl rfl (.inl ⟨by rfl, ?_⟩) ?_ ?_ ?_; rotate_left; (focus intro w'; go_simp; with_reducible rfl); rotate_left; (focus simp only [pk]; rfl)
      refine done_ (done_of HT_.out (by kernel_rfl)) ?_
      try go_wp2
      go_ret
      exact ⟨by first | rfl | (simp [errW_none, errW_some] <;> rfl) | (simp [*, errW_none, errW_some] <;> rfl), by repeat (first | (with_reducible first | exact HB.out | apply b1 | apply b2 | apply b3 | refine below_set ?_ GE110.out) | exact HB.out)⟩
     ·rw [if_neg c14] at H
      have c14b0 : decide (a0_5 < 0) = false := decide_eq_false c14
      clear c14
      by_cases c17 : a0_5 > 3
      ·rw [if_pos c17] at H
       have c17b0 : decide (3 < a0_5) = true := decide_eq_true c17
       clear c17
       obtain rfl := Option.some.inj H
       go_enter Try.func18, Try.ntmps18
       try go_wp2_with (first | ((with_reducible refine gate_dst (N := 1) rfl ?_); (try (refine gate_guard (by rfl) ?_; dsimp only)); refine box_event ?hg (N := 1) ?hd (cs := #[.int .i64 a0_0, .slice A0_1 l0_1.length c0_1, .bool a0_2, .int .i64 a0_3, .int .i64 a0_4, .int .i64 a0_5, .bool a0_6]) (t := 24) ?hr ?_; (case hd => rfl); (case hg => rfl); (case hr => first | (go_simp; done) | (go_simp; rfl)); intro gb110 hg w18 hbox hb; have n0_ := Aside0.mk (below_step (by first | with_reducible exact HB.out | exact sB HB.out) hb); have n1_ := Aside0.mk (hbox); have n2_ := Aside0.mk ((by rw [hg]; exact (below_size (by first | with_reducible exact HB.out | exact sB HB.out)) : w.heap.size ≤ gb110)); have n3_ := Aside0.mk ((by rw [hg]; exact (below_size (by first | with_reducible exact HB.out | exact sB HB.out)) : w.heap.size ≤ gb110)); clear HB; have HB := n0_; have BK110 := n1_; have GW110 := n2_; have GE110 := n3_; clear n0_ n1_ n2_ n3_; clear hb hbox hg))
       have n0_ := Aside0.mk (blk_drew BK110.out)
       have n1_ := Aside0.mk (below_drew1 HB.out)
       clear BK110
       clear HB
       have BK110 := n0_
       have HB := n1_
       clear n0_ n1_
       refine start_ (n := 73) (S := fun w' => w'.cell? ⟨gb110, 0, none⟩ = some (.int .i64 a0_0) ∧ w'.cell? ⟨gb110, 1, none⟩ = some (.slice A0_1 l0_1.length c0_1) ∧ w'.cell? ⟨gb110, 2, none⟩ = some (.bool a0_2) ∧ w'.cell? ⟨gb110, 3, none⟩ = some (.int .i64 a0_3) ∧ w'.cell? ⟨gb110, 4, none⟩ = some (.int .i64 a0_4) ∧ w'.cell? ⟨gb110, 5, none⟩ = some (.int .i64 a0_5) ∧ w'.cell? ⟨gb110, 6, none⟩ = some (.bool a0_6)) (ds := []) (bu 73 0) (by kernel_rfl) rfl rfl ⟨(blk_cell BK110.out 0).trans rfl, (blk_cell BK110.out 1).trans rfl, (blk_cell BK110.out 2).trans rfl, (blk_cell BK110.out 3).trans rfl, (blk_cell BK110.out 4).trans rfl, (blk_cell BK110.out 5).trans rfl, (blk_cell BK110.out 6).trans rfl⟩ (fun hHeld => ?_); refine with_tabW sender_Check.tab1 sender_Check.bits1 (fun HT_ HW_ => ?_)
       generalize w18.drew = w19 at BK110 HB hHeld ⊢
       refine pA 0 3 (bu 73 1) ?_ HT_ rfl rfl (.inl ⟨by rfl, ?_⟩) ?_ ?_ ?_; rotate_left; (focus intro w'; go_simp; with_reducible rfl); rotate_left; (focus simp only [pk]; rfl)
       refine tA 1 4 (bu 73 2) ?_ HT_ HW_ rfl rfl (.inl ⟨by rfl, ?_⟩) hHeld ?_ ?_ ?_; rotate_left; (focus rintro w' ⟨s0, s1, s2, s3, s4, s5, s6⟩; go_simp; with_reducible rfl); rotate_left; (focus simp only [pk]; rfl)
       refine pA 2 5 (bu 73 3) ?_ HT_ rfl rfl (.inl ⟨by rfl, ?_⟩) ?_ ?_ ?_; rotate_left; (focus intro w'; go_simp; with_reducible rfl); rotate_left; (focus simp only [pk]; rfl)
       refine pA 3 6 (bu 73 4) ?_ HT_ rfl rfl (.inl ⟨by rfl, ?_⟩) ?_ ?_ ?_; rotate_left; (focus intro w'; go_simp; with_reducible rfl); rotate_left; (focus simp only [pk]; rfl)
       refine pA 4 7 (bu 73 5) ?_ HT_ rfl rfl (.inl ⟨by rfl, ?_⟩) ?_ ?_ ?_; rotate_left; (focus intro w'; go_simp; with_reducible rfl); rotate_left; (focus simp only [pk]; rfl)
       refine tA 5 8 (bu 73 6) ?_ HT_ HW_ rfl rfl (.inl ⟨by rfl, ?_⟩) hHeld ?_ ?_ ?_; rotate_left; (focus rintro w' ⟨s0, s1, s2, s3, s4, s5, s6⟩; go_simp; with_reducible rfl); rotate_left; (focus simp only [pk]; rfl)
       refine pA 6 9 (bu 73 7) ?_ HT_ rfl rfl (.inl ⟨by rfl, ?_⟩) ?_ ?_ ?_; rotate_left; (focus intro w'; go_simp; with_reducible rfl); rotate_left; (focus simp only [pk]; rfl)
       refine pA 7 10 (bu 73 8) ?_ HT_ rfl rfl (.inl ⟨by rfl, ?_⟩) ?_ ?_ ?_; rotate_left; (focus intro w'; go_simp; with_reducible rfl); rotate_left; (focus simp only [pk]; rfl)
       refine pA 8 11 (bu 73 9) ?_ HT_ rfl rfl (.inl ⟨by rfl, ?_⟩) ?_ ?_ ?_; rotate_left; (focus intro w'; go_simp; with_reducible rfl); rotate_left; (focus simp only [pk]; rfl)
       refine pA 9 12 (bu 73 10) ?_ HT_ rfl rfl (.inl ⟨by rfl, ?_⟩) ?_ ?_ ?_; rotate_left; (focus intro w'; go_simp; with_reducible rfl); rotate_left; (focus simp only [pk]; rfl)
       refine tA 10 13 (bu 73 11) ?_ HT_ HW_ rfl rfl (.inl ⟨by rfl, ?_⟩) hHeld ?_ ?_ ?_; rotate_left; (focus rintro w' ⟨s0, s1, s2, s3, s4, s5, s6⟩; go_simp; with_reducible rfl); rotate_left; (focus simp only [pk]; rfl)
       refine pA 11 14 (bu 73 12) ?_ HT_ rfl rfl (.inl ⟨by rfl, ?_⟩) ?_ ?_ ?_; rotate_left; (focus intro w'; go_simp; with_reducible rfl); rotate_left; (focus simp only [pk]; rfl)
       refine pA 12 15 (bu 73 13) ?_ HT_ rfl rfl (.inl ⟨by rfl, ?_⟩) ?_ ?_ ?_; rotate_left; (focus intro w'; go_simp; with_reducible rfl); rotate_left; (focus simp only [pk]; rfl)
       refine pA 13 16 (bu 73 14) ?_ HT_ rfl rfl (.inl ⟨by rfl, ?_⟩) ?_ ?_ ?_; rotate_left; (focus intro w'; go_simp; with_reducible rfl); rotate_left; (focus simp only [pk]; rfl)
       refine pA 14 17 (bu 73 15) ?_ HT_ rfl rfl (.inl ⟨by rfl, ?_⟩) ?_ ?_ ?_; rotate_left; (focus intro w'; go_simp; with_reducible rfl); rotate_left; (focus simp only [pk]; rfl)
       refine pA 15 18 (bu 73 16) ?_ HT_ rfl rfl (.inl ⟨by rfl, ?_⟩) ?_ ?_ ?_; rotate_left; (focus intro w'; go_simp; with_reducible rfl); rotate_left; (focus simp only [pk]; rfl)
       refine tA 16 19 (bu 73 17) ?_ HT_ HW_ rfl rfl (.inl ⟨by rfl, ?_⟩) hHeld ?_ ?_ ?_; rotate_left; (focus rintro w' ⟨s0, s1, s2, s3, s4, s5, s6⟩; go_simp; with_reducible rfl); rotate_left; (focus simp only [pk]; rfl)
       refine pA 17 20 (bu 73 18) ?_ HT_ rfl rfl (.inl ⟨by rfl, ?_⟩) ?_ ?_ ?_; rotate_left; (focus intro w'; go_simp; with_reducible rfl); rotate_left; (focus simp only [pk]; rfl)
       refine pA 18 21 (bu 73 19) ?_ HT_ rfl rfl (.inl ⟨by rfl, ?_⟩) ?_ ?_ ?_; rotate_left; (focus intro w'; go_simp; with_reducible rfl); rotate_left; (focus simp only [pk]; rfl)
       refine pA 19 22 (bu 73 20) ?_ HT_ rfl rfl (.inl ⟨by rfl, ?_⟩) ?_ ?_ ?_; rotate_left; (focus intro w'; go_simp; with_reducible rfl); rotate_left; (focus simp only [pk]; rfl)
       refine pA 20 23 (bu 73 21) ?_ HT_ rfl rfl (.inl ⟨by rfl, ?_⟩) ?_ ?_ ?_; rotate_left; (focus intro w'; go_simp; with_reducible rfl); rotate_left; (focus simp only [pk]; rfl)
       refine pA 21 24 (bu 73 22) ?_ HT_ rfl rfl (.inl ⟨by rfl, ?_⟩) ?_ ?_ ?_; rotate_left; (focus intro w'; go_simp; with_reducible rfl); rotate_left; (focus simp only [pk]; rfl)
       refine tA 22 25 (bu 73 23) ?_ HT_ HW_ rfl rfl (.inl ⟨by rfl, ?_⟩) hHeld ?_ ?_ ?_; rotate_left; (focus rintro w' ⟨s0, s1, s2, s3, s4, s5, s6⟩; go_simp; with_reducible rfl); rotate_left; (focus simp only [pk]; rfl)
       refine pA 23 26 (bu 73 24) ?_ HT_ rfl rfl (.inl ⟨by rfl, ?_⟩) ?_ ?_ ?_; rotate_left; (focus intro w'; go_simp; with_reducible rfl); rotate_left; (focus simp only [pk]; rfl)
       refine pA 24 27 (bu 73 25) ?_ HT_ rfl rfl (.inl ⟨by rfl, ?_⟩) ?_ ?_ ?_; rotate_left; (focus intro w'; go_simp; with_reducible rfl); rotate_left; (focus simp only [pk]; rfl)
       refine pA 25 28 (bu 73 26) ?_ HT_ rfl rfl (.inl ⟨by rfl, ?_⟩) ?_ ?_ ?_; rotate_left; (focus intro w'; go_simp; with_reducible rfl); rotate_left; (focus simp only [pk]; rfl)
       refine pA 26 29 (bu 73 27) ?_ HT_ rfl rfl (.inl ⟨by rfl, ?_⟩) ?_ ?_ ?_; rotate_left; (focus intro w'; go_simp; with_reducible rfl); rotate_left; (focus simp only [pk]; rfl)
       refine tA 27 30 (bu 73 28) ?_ HT_ HW_ rfl rfl (.inl ⟨by rfl, ?_⟩) hHeld ?_ ?_ ?_; rotate_left; (focus rintro w' ⟨s0, s1, s2, s3, s4, s5, s6⟩; go_simp; with_reducible rfl); rotate_left; (focus simp only [pk]; rfl)
       refine pA 28 31 (bu 73 29) ?_ HT_ rfl rfl (.inl ⟨by rfl, ?_⟩) ?_ ?_ ?_; rotate_left; (focus intro w'; go_simp; with_reducible rfl); rotate_left; (focus simp only [pk]; rfl)
       refine pA 29 32 (bu 73 30) ?_ HT_ rfl rfl (.inl ⟨by rfl, ?_⟩) ?_ ?_ ?_; rotate_left; (focus intro w'; go_simp; with_reducible rfl); rotate_left; (focus simp only [pk]; rfl)
       refine pA 30 33 (bu 73 31) ?_ HT_ rfl rfl (.inl ⟨by rfl, ?_⟩) ?_ ?_ ?_; rotate_left; (focus intro w'; go_simp; with_reducible rfl); rotate_left; (focus simp only [pk]; rfl)
       refine pU 31 34 (bu 73 32) HT_ ?_ ?_ ?_; rotate_left; (focus simp only [pk]; rfl)
       refine pU 32 35 (bu 73 33) HT_ ?_ ?_ ?_; rotate_left; (focus simp only [pk]; rfl)
       refine pU 33 36 (bu 73 34) HT_ ?_ ?_ ?_; rotate_left; (focus simp only [pk]; rfl)
       refine pU 34 37 (bu 73 35) HT_ ?_ ?_ ?_; rotate_left; (focus simp only [pk]; rfl)
       refine pU 35 38 (bu 73 36) HT_ ?_ ?_ ?_; rotate_left; (focus simp only [pk]; rfl)
       refine pU 36 39 (bu 73 37) HT_ ?_ ?_ ?_; rotate_left; (focus simp only [pk]; rfl)
       refine pU 37 40 (bu 73 38) HT_ ?_ ?_ ?_; rotate_left; (focus simp only [pk]; rfl)
       refine pU 38 41 (bu 73 39) HT_ ?_ ?_ ?_; rotate_left; (focus simp only [pk]; rfl)
       refine pU 39 42 (bu 73 40) HT_ ?_ ?_ ?_; rotate_left; (focus simp only [pk]; rfl)
       refine pU 40 43 (bu 73 41) HT_ ?_ ?_ ?_; rotate_left; (focus simp only [pk]; rfl)
       refine pU 41 44 (bu 73 42) HT_ ?_ ?_ ?_; rotate_left; (focus simp only [pk]; rfl)
       refine pU 42 45 (bu 73 43) HT_ ?_ ?_ ?_; rotate_left; (focus simp only [pk]; rfl)
       refine pU 43 46 (bu 73 44) HT_ ?_ ?_ ?_; rotate_left; (focus simp only [pk]; rfl)
       refine pA 44 47 (bu 73 45) ?_ HT_ rfl rfl (.inl ⟨by rfl, ?_⟩) ?_ ?_ ?_; rotate_left; (focus intro w'; go_simp; with_reducible rfl); rotate_left; (focus simp only [pk]; rfl)
       refine pA 45 48 (bu 73 46) ?_ HT_ rfl rfl (.inl ⟨by rfl, ?_⟩) ?_ ?_ ?_; rotate_left; (focus intro w'; go_simp; with_reducible rfl); rotate_left; (focus simp only [pk]; rfl)
       refine pU 46 49 (bu 73 47) HT_ ?_ ?_ ?_; rotate_left; (focus simp only [pk]; rfl)
       refine pU 47 50 (bu 73 48) HT_ ?_ ?_ ?_; rotate_left; (focus simp only [pk]; rfl)
       refine pU 48 51 (bu 73 49) HT_ ?_ ?_ ?_; rotate_left; (focus simp only [pk]; rfl)
       refine pA 49 52 (bu 73 50) ?_ HT_ rfl rfl (.inl ⟨by rfl, ?_⟩) ?_ ?_ ?_; rotate_left; (focus intro w'; go_simp; with_reducible rfl); rotate_left; (focus simp only [pk]; rfl)
       refine pA 50 53 (bu 73 51) ?_ HT_ rfl rfl (.inl ⟨by rfl, ?_⟩) ?_ ?_ ?_; rotate_left; (focus intro w'; go_simp; with_reducible rfl); rotate_left; (focus simp only [pk]; rfl)
       refine pU 51 54 (bu 73 52) HT_ ?_ ?_ ?_; rotate_left; (focus simp only [pk]; rfl)
       refine pU 52 55 (bu 73 53) HT_ ?_ ?_ ?_; rotate_left; (focus simp only [pk]; rfl)
       refine pU 53 56 (bu 73 54) HT_ ?_ ?_ ?_; rotate_left; (focus simp only [pk]; rfl)
       refine pU 54 57 (bu 73 55) HT_ ?_ ?_ ?_; rotate_left; (focus simp only [pk]; rfl)
       refine pU 55 58 (bu 73 56) HT_ ?_ ?_ ?_; rotate_left; (focus simp only [pk]; rfl)
       refine pU 56 59 (bu 73 57) HT_ ?_ ?_ ?_; rotate_left; (focus simp only [pk]; rfl)
       refine pU 57 60 (bu 73 58) HT_ ?_ ?_ ?_; rotate_left; (focus simp only [pk]; rfl)
       refine pA 58 61 (bu 73 59) ?_ HT_ rfl rfl (.inl ⟨by rfl, ?_⟩) ?_ ?_ ?_; rotate_left; (focus intro w'; go_simp; with_reducible rfl); rotate_left; (focus simp only [pk]; rfl)
       refine pA 59 62 (bu 73 60) ?_ HT_ rfl rfl (.inl ⟨by rfl, ?_⟩) ?_ ?_ ?_; rotate_left; (focus intro w'; go_simp; with_reducible rfl); rotate_left; (focus simp only [pk]; rfl)
       refine pU 60 63 (bu 73 61) HT_ ?_ ?_ ?_; rotate_left; (focus simp only [pk]; rfl)
       refine pU 61 64 (bu 73 62) HT_ ?_ ?_ ?_; rotate_left; (focus simp only [pk]; rfl)
       refine pU 62 65 (bu 73 63) HT_ ?_ ?_ ?_; rotate_left; (focus simp only [pk]; rfl)
       refine pU 63 66 (bu 73 64) HT_ ?_ ?_ ?_; rotate_left; (focus simp only [pk]; rfl)
       refine pU 64 67 (bu 73 65) HT_ ?_ ?_ ?_; rotate_left; (focus simp only [pk]; rfl)
       refine pA 65 68 (bu 73 66) ?_ HT_ rfl rfl (.inl ⟨by rfl, ?_⟩) ?_ ?_ ?_; rotate_left; (focus intro w'; go_simp; with_reducible rfl); rotate_left; (focus simp only [pk]; rfl)
       refine pA 66 69 (bu 73 67) ?_ HT_ rfl rfl (.inl ⟨by rfl, ?_⟩) ?_ ?_ ?_; rotate_left; (focus intro w'; go_simp; with_reducible rfl); rotate_left; (focus simp only [pk]; rfl)
       refine pU 67 70 (bu 73 68) HT_ ?_ ?_ ?_; rotate_left; (focus simp only [pk]; rfl)
       refine pU 68 71 (bu 73 69) HT_ ?_ ?_ ?_; rotate_left; (focus simp only [pk]; rfl)
       refine pU 69 72 (bu 73 70) HT_ ?_ ?_ ?_; rotate_left; (focus simp only [pk]; rfl)
       refine pU 70 73 (bu 73 71) HT_ ?_ ?_ ?_; rotate_left; (focus simp only [pk]; rfl)
       refine pU 71 74 (bu 73 72) HT_ ?_ ?_ ?_; rotate_left; (focus simp only [pk]; rfl)
       refine pA 72 75 (bu 73 73) ?_ HT_ rfl rfl (.inl ⟨by rfl, ?_⟩) ?_ ?_ ?_; rotate_left; (focus intro w'; go_simp; with_reducible rfl); rotate_left; (focus simp only [pk]; rfl)
       refine done_ (done_of HT_.out (by kernel_rfl)) ?_
       try go_wp2
       go_ret
       exact ⟨by first | rfl | (simp [errW_none, errW_some] <;> rfl) | (simp [*, errW_none, errW_some] <;> rfl), by repeat (first | (with_reducible first | exact HB.out | apply b1 | apply b2 | apply b3 | refine below_set ?_ GE110.out) | exact HB.out)⟩
      ·rw [if_neg c17] at H
       have c17b0 : decide (3 < a0_5) = false := decide_eq_false c17
       clear c17
       by_cases c20 : a0_2 = true
       ·subst c20
        have H1 : (if a0_3 < 0 then (some 1) else ((sender_count.f (l0_1.length : Int)).bind fun t111 => (if a0_3 > t111 then (some 1) else (if a0_4 < a0_3 then (some 1) else ((sender_top.f a0_0 l0_1 true a0_3 a0_4 a0_5 a0_6).bind fun t112 => (if a0_4 > t112 then (some 1) else (some 0))))))) = some r := by rw [if_pos rfl] at H; exact H
        clear H
        have H := H1
        clear H1
        by_cases c21 : a0_3 < 0
        ·rw [if_pos c21] at H
         have c21b0 : decide (a0_3 < 0) = true := decide_eq_true c21
         clear c21
         obtain rfl := Option.some.inj H
         go_enter Try.func18, Try.ntmps18
         try go_wp2_with (first | ((with_reducible refine gate_dst (N := 1) rfl ?_); (try (refine gate_guard (by rfl) ?_; dsimp only)); refine box_event ?hg (N := 1) ?hd (cs := #[.int .i64 a0_0, .slice A0_1 l0_1.length c0_1, .bool true, .int .i64 a0_3, .int .i64 a0_4, .int .i64 a0_5, .bool a0_6]) (t := 24) ?hr ?_; (case hd => rfl); (case hg => rfl); (case hr => first | (go_simp; done) | (go_simp; rfl)); intro gb110 hg w22 hbox hb; have n0_ := Aside0.mk (below_step (by first | with_reducible exact HB.out | exact sB HB.out) hb); have n1_ := Aside0.mk (hbox); have n2_ := Aside0.mk ((by rw [hg]; exact (below_size (by first | with_reducible exact HB.out | exact sB HB.out)) : w.heap.size ≤ gb110)); have n3_ := Aside0.mk ((by rw [hg]; exact (below_size (by first | with_reducible exact HB.out | exact sB HB.out)) : w.heap.size ≤ gb110)); clear HB; have HB := n0_; have BK110 := n1_; have GW110 := n2_; have GE110 := n3_; clear n0_ n1_ n2_ n3_; clear hb hbox hg))
         have n0_ := Aside0.mk (blk_drew BK110.out)
         have n1_ := Aside0.mk (below_drew1 HB.out)
         clear BK110
         clear HB
         have BK110 := n0_
         have HB := n1_
         clear n0_ n1_
         refine start_ (n := 73) (S := fun w' => w'.cell? ⟨gb110, 0, none⟩ = some (.int .i64 a0_0) ∧ w'.cell? ⟨gb110, 1, none⟩ = some (.slice A0_1 l0_1.length c0_1) ∧ w'.cell? ⟨gb110, 2, none⟩ = some (.bool true) ∧ w'.cell? ⟨gb110, 3, none⟩ = some (.int .i64 a0_3) ∧ w'.cell? ⟨gb110, 4, none⟩ = some (.int .i64 a0_4) ∧ w'.cell? ⟨gb110, 5, none⟩ = some (.int .i64 a0_5) ∧ w'.cell? ⟨gb110, 6, none⟩ = some (.bool a0_6)) (ds := []) (bu 73 0) (by kernel_rfl) rfl rfl ⟨(blk_cell BK110.out 0).trans rfl, (blk_cell BK110.out 1).trans rfl, (blk_cell BK110.out 2).trans rfl, (blk_cell BK110.out 3).trans rfl, (blk_cell BK110.out 4).trans rfl, (blk_cell BK110.out 5).trans rfl, (blk_cell BK110.out 6).trans rfl⟩ (fun hHeld => ?_); refine with_tabW sender_Check.tab1 sender_Check.bits1 (fun HT_ HW_ => ?_)
         generalize w22.drew = w23 at BK110 HB hHeld ⊢
         refine pA 0 3 (bu 73 1) ?_ HT_ rfl rfl (.inl ⟨by rfl, ?_⟩) ?_ ?_ ?_; rotate_left; (focus intro w'; go_simp; with_reducible rfl); rotate_left; (focus simp only [pk]; rfl)
         refine tA 1 4 (bu 73 2) ?_ HT_ HW_ rfl rfl (.inl ⟨by rfl, ?_⟩) hHeld ?_ ?_ ?_; rotate_left; (focus rintro w' ⟨s0, s1, s2, s3, s4, s5, s6⟩; go_simp; with_reducible rfl); rotate_left; (focus simp only [pk]; rfl)
         refine pA 2 5 (bu 73 3) ?_ HT_ rfl rfl (.inl ⟨by rfl, ?_⟩) ?_ ?_ ?_; rotate_left; (focus intro w'; go_simp; with_reducible rfl); rotate_left; (focus simp only [pk]; rfl)
         refine pA 3 6 (bu 73 4) ?_ HT_ rfl rfl (.inl ⟨by rfl, ?_⟩) ?_ ?_ ?_; rotate_left; (focus intro w'; go_simp; with_reducible rfl); rotate_left; (focus simp only [pk]; rfl)
         refine pA 4 7 (bu 73 5) ?_ HT_ rfl rfl (.inl ⟨by rfl, ?_⟩) ?_ ?_ ?_; rotate_left; (focus intro w'; go_simp; with_reducible rfl); rotate_left; (focus simp only [pk]; rfl)
         refine tA 5 8 (bu 73 6) ?_ HT_ HW_ rfl rfl (.inl ⟨by rfl, ?_⟩) hHeld ?_ ?_ ?_; rotate_left; (focus rintro w' ⟨s0, s1, s2, s3, s4, s5, s6⟩; go_simp; with_reducible rfl); rotate_left; (focus simp only [pk]; rfl)
         refine pA 6 9 (bu 73 7) ?_ HT_ rfl rfl (.inl ⟨by rfl, ?_⟩) ?_ ?_ ?_; rotate_left; (focus intro w'; go_simp; with_reducible rfl); rotate_left; (focus simp only [pk]; rfl)
         refine pA 7 10 (bu 73 8) ?_ HT_ rfl rfl (.inl ⟨by rfl, ?_⟩) ?_ ?_ ?_; rotate_left; (focus intro w'; go_simp; with_reducible rfl); rotate_left; (focus simp only [pk]; rfl)
         refine pA 8 11 (bu 73 9) ?_ HT_ rfl rfl (.inl ⟨by rfl, ?_⟩) ?_ ?_ ?_; rotate_left; (focus intro w'; go_simp; with_reducible rfl); rotate_left; (focus simp only [pk]; rfl)
         refine pA 9 12 (bu 73 10) ?_ HT_ rfl rfl (.inl ⟨by rfl, ?_⟩) ?_ ?_ ?_; rotate_left; (focus intro w'; go_simp; with_reducible rfl); rotate_left; (focus simp only [pk]; rfl)
         refine tA 10 13 (bu 73 11) ?_ HT_ HW_ rfl rfl (.inl ⟨by rfl, ?_⟩) hHeld ?_ ?_ ?_; rotate_left; (focus rintro w' ⟨s0, s1, s2, s3, s4, s5, s6⟩; go_simp; with_reducible rfl); rotate_left; (focus simp only [pk]; rfl)
         refine pA 11 14 (bu 73 12) ?_ HT_ rfl rfl (.inl ⟨by rfl, ?_⟩) ?_ ?_ ?_; rotate_left; (focus intro w'; go_simp; with_reducible rfl); rotate_left; (focus simp only [pk]; rfl)
         refine pA 12 15 (bu 73 13) ?_ HT_ rfl rfl (.inl ⟨by rfl, ?_⟩) ?_ ?_ ?_; rotate_left; (focus intro w'; go_simp; with_reducible rfl); rotate_left; (focus simp only [pk]; rfl)
         refine pA 13 16 (bu 73 14) ?_ HT_ rfl rfl (.inl ⟨by rfl, ?_⟩) ?_ ?_ ?_; rotate_left; (focus intro w'; go_simp; with_reducible rfl); rotate_left; (focus simp only [pk]; rfl)
         refine pA 14 17 (bu 73 15) ?_ HT_ rfl rfl (.inl ⟨by rfl, ?_⟩) ?_ ?_ ?_; rotate_left; (focus intro w'; go_simp; with_reducible rfl); rotate_left; (focus simp only [pk]; rfl)
         refine pA 15 18 (bu 73 16) ?_ HT_ rfl rfl (.inl ⟨by rfl, ?_⟩) ?_ ?_ ?_; rotate_left; (focus intro w'; go_simp; with_reducible rfl); rotate_left; (focus simp only [pk]; rfl)
         refine tA 16 19 (bu 73 17) ?_ HT_ HW_ rfl rfl (.inl ⟨by rfl, ?_⟩) hHeld ?_ ?_ ?_; rotate_left; (focus rintro w' ⟨s0, s1, s2, s3, s4, s5, s6⟩; go_simp; with_reducible rfl); rotate_left; (focus simp only [pk]; rfl)
         refine pA 17 20 (bu 73 18) ?_ HT_ rfl rfl (.inl ⟨by rfl, ?_⟩) ?_ ?_ ?_; rotate_left; (focus intro w'; go_simp; with_reducible rfl); rotate_left; (focus simp only [pk]; rfl)
         refine pA 18 21 (bu 73 19) ?_ HT_ rfl rfl (.inl ⟨by rfl, ?_⟩) ?_ ?_ ?_; rotate_left; (focus intro w'; go_simp; with_reducible rfl); rotate_left; (focus simp only [pk]; rfl)
         refine pA 19 22 (bu 73 20) ?_ HT_ rfl rfl (.inl ⟨by rfl, ?_⟩) ?_ ?_ ?_; rotate_left; (focus intro w'; go_simp; with_reducible rfl); rotate_left; (focus simp only [pk]; rfl)
         refine pA 20 23 (bu 73 21) ?_ HT_ rfl rfl (.inl ⟨by rfl, ?_⟩) ?_ ?_ ?_; rotate_left; (focus intro w'; go_simp; with_reducible rfl); rotate_left; (focus simp only [pk]; rfl)
         refine pA 21 24 (bu 73 22) ?_ HT_ rfl rfl (.inl ⟨by rfl, ?_⟩) ?_ ?_ ?_; rotate_left; (focus intro w'; go_simp; with_reducible rfl); rotate_left; (focus simp only [pk]; rfl)
         refine tA 22 25 (bu 73 23) ?_ HT_ HW_ rfl rfl (.inl ⟨by rfl, ?_⟩) hHeld ?_ ?_ ?_; rotate_left; (focus rintro w' ⟨s0, s1, s2, s3, s4, s5, s6⟩; go_simp; with_reducible rfl); rotate_left; (focus simp only [pk]; rfl)
         refine pA 23 26 (bu 73 24) ?_ HT_ rfl rfl (.inl ⟨by rfl, ?_⟩) ?_ ?_ ?_; rotate_left; (focus intro w'; go_simp; with_reducible rfl); rotate_left; (focus simp only [pk]; rfl)
         refine pA 24 27 (bu 73 25) ?_ HT_ rfl rfl (.inl ⟨by rfl, ?_⟩) ?_ ?_ ?_; rotate_left; (focus intro w'; go_simp; with_reducible rfl); rotate_left; (focus simp only [pk]; rfl)
         refine pA 25 28 (bu 73 26) ?_ HT_ rfl rfl (.inl ⟨by rfl, ?_⟩) ?_ ?_ ?_; rotate_left; (focus intro w'; go_simp; with_reducible rfl); rotate_left; (focus simp only [pk]; rfl)
         refine pA 26 29 (bu 73 27) ?_ HT_ rfl rfl (.inl ⟨by rfl, ?_⟩) ?_ ?_ ?_; rotate_left; (focus intro w'; go_simp; with_reducible rfl); rotate_left; (focus simp only [pk]; rfl)
         refine tA 27 30 (bu 73 28) ?_ HT_ HW_ rfl rfl (.inl ⟨by rfl, ?_⟩) hHeld ?_ ?_ ?_; rotate_left; (focus rintro w' ⟨s0, s1, s2, s3, s4, s5, s6⟩; go_simp; with_reducible rfl); rotate_left; (focus simp only [pk]; rfl)
         refine pA 28 31 (bu 73 29) ?_ HT_ rfl rfl (.inl ⟨by rfl, ?_⟩) ?_ ?_ ?_; rotate_left; (focus intro w'; go_simp; with_reducible rfl); rotate_left; (focus simp only [pk]; rfl)
         refine pA 29 32 (bu 73 30) ?_ HT_ rfl rfl (.inl ⟨by rfl, ?_⟩) ?_ ?_ ?_; rotate_left; (focus intro w'; go_simp; with_reducible rfl); rotate_left; (focus simp only [pk]; rfl)
         refine pA 30 33 (bu 73 31) ?_ HT_ rfl rfl (.inl ⟨by rfl, ?_⟩) ?_ ?_ ?_; rotate_left; (focus intro w'; go_simp; with_reducible rfl); rotate_left; (focus simp only [pk]; rfl)
         refine pA 31 34 (bu 73 32) ?_ HT_ rfl rfl (.inl ⟨by rfl, ?_⟩) ?_ ?_ ?_; rotate_left; (focus intro w'; go_simp; with_reducible rfl); rotate_left; (focus simp only [pk]; rfl)
         refine tA 32 35 (bu 73 33) ?_ HT_ HW_ rfl rfl (.inl ⟨by rfl, ?_⟩) hHeld ?_ ?_ ?_; rotate_left; (focus rintro w' ⟨s0, s1, s2, s3, s4, s5, s6⟩; go_simp; with_reducible rfl); rotate_left; (focus simp only [pk]; rfl)
         refine pA 33 36 (bu 73 34) ?_ HT_ rfl rfl (.inl ⟨by rfl, ?_⟩) ?_ ?_ ?_; rotate_left; (focus intro w'; go_simp; with_reducible rfl); rotate_left; (focus simp only [pk]; rfl)
         refine pA 34 37 (bu 73 35) ?_ HT_ rfl rfl (.inl ⟨by rfl, ?_⟩) ?_ ?_ ?_; rotate_left; (focus intro w'; go_simp; with_reducible rfl); rotate_left; (focus simp only [pk]; rfl)
         refine pU 35 38 (bu 73 36) HT_ ?_ ?_ ?_; rotate_left; (focus simp only [pk]; rfl)
         refine pU 36 39 (bu 73 37) HT_ ?_ ?_ ?_; rotate_left; (focus simp only [pk]; rfl)
         refine pU 37 40 (bu 73 38) HT_ ?_ ?_ ?_; rotate_left; (focus simp only [pk]; rfl)
         refine pU 38 41 (bu 73 39) HT_ ?_ ?_ ?_; rotate_left; (focus simp only [pk]; rfl)
         refine pU 39 42 (bu 73 40) HT_ ?_ ?_ ?_; rotate_left; (focus simp only [pk]; rfl)
         refine pU 40 43 (bu 73 41) HT_ ?_ ?_ ?_; rotate_left; (focus simp only [pk]; rfl)
         refine pU 41 44 (bu 73 42) HT_ ?_ ?_ ?_; rotate_left; (focus simp only [pk]; rfl)
         refine pU 42 45 (bu 73 43) HT_ ?_ ?_ ?_; rotate_left; (focus simp only [pk]; rfl)
         refine pA 43 46 (bu 73 44) ?_ HT_ rfl rfl (.inl ⟨by rfl, ?_⟩) ?_ ?_ ?_; rotate_left; (focus intro w'; go_simp; with_reducible rfl); rotate_left; (focus simp only [pk]; rfl)
         refine pA 44 47 (bu 73 45) ?_ HT_ rfl rfl (.inl ⟨by rfl, ?_⟩) ?_ ?_ ?_; rotate_left; (focus intro w'; go_simp; with_reducible rfl); rotate_left; (focus simp only [pk]; rfl)
         refine pA 45 48 (bu 73 46) ?_ HT_ rfl rfl (.inl ⟨by rfl, ?_⟩) ?_ ?_ ?_; rotate_left; (focus intro w'; go_simp; with_reducible rfl); rotate_left; (focus simp only [pk]; rfl)
         refine pA 46 49 (bu 73 47) ?_ HT_ rfl rfl (.inl ⟨by rfl, ?_⟩) ?_ ?_ ?_; rotate_left; (focus intro w'; go_simp; with_reducible rfl); rotate_left; (focus simp only [pk]; rfl)
         refine tA 47 50 (bu 73 48) ?_ HT_ HW_ rfl rfl (.inl ⟨by rfl, ?_⟩) hHeld ?_ ?_ ?_; rotate_left; (focus rintro w' ⟨s0, s1, s2, s3, s4, s5, s6⟩; go_simp; with_reducible rfl); rotate_left; (focus simp only [pk]; rfl)
         refine pA 48 51 (bu 73 49) ?_ HT_ rfl rfl (.inl ⟨by rfl, ?_⟩) ?_ ?_ ?_; rotate_left; (focus intro w'; go_simp; with_reducible rfl); rotate_left; (focus simp only [pk]; rfl)
         refine pA 49 52 (bu 73 50) ?_ HT_ rfl rfl (.inl ⟨by rfl, ?_⟩) ?_ ?_ ?_; rotate_left; (focus intro w'; go_simp; with_reducible rfl); rotate_left; (focus simp only [pk]; rfl)
         refine pA 50 53 (bu 73 51) ?_ HT_ rfl rfl (.inl ⟨by rfl, ?_⟩) ?_ ?_ ?_; rotate_left; (focus intro w'; go_simp; with_reducible rfl); rotate_left; (focus simp only [pk]; rfl)
         refine pU 51 54 (bu 73 52) HT_ ?_ ?_ ?_; rotate_left; (focus simp only [pk]; rfl)
         refine pU 52 55 (bu 73 53) HT_ ?_ ?_ ?_; rotate_left; (focus simp only [pk]; rfl)
         refine pU 53 56 (bu 73 54) HT_ ?_ ?_ ?_; rotate_left; (focus simp only [pk]; rfl)
         refine pU 54 57 (bu 73 55) HT_ ?_ ?_ ?_; rotate_left; (focus simp only [pk]; rfl)
         refine pU 55 58 (bu 73 56) HT_ ?_ ?_ ?_; rotate_left; (focus simp only [pk]; rfl)
         refine pU 56 59 (bu 73 57) HT_ ?_ ?_ ?_; rotate_left; (focus simp only [pk]; rfl)
         refine pU 57 60 (bu 73 58) HT_ ?_ ?_ ?_; rotate_left; (focus simp only [pk]; rfl)
         refine pA 58 61 (bu 73 59) ?_ HT_ rfl rfl (.inl ⟨by rfl, ?_⟩) ?_ ?_ ?_; rotate_left; (focus intro w'; go_simp; with_reducible rfl); rotate_left; (focus simp only [pk]; rfl)
         refine pA 59 62 (bu 73 60) ?_ HT_ rfl rfl (.inl ⟨by rfl, ?_⟩) ?_ ?_ ?_; rotate_left; (focus intro w'; go_simp; with_reducible rfl); rotate_left; (focus simp only [pk]; rfl)
         refine pU 60 63 (bu 73 61) HT_ ?_ ?_ ?_; rotate_left; (focus simp only [pk]; rfl)
         refine pU 61 64 (bu 73 62) HT_ ?_ ?_ ?_; rotate_left; (focus simp only [pk]; rfl)
         refine pU 62 65 (bu 73 63) HT_ ?_ ?_ ?_; rotate_left; (focus simp only [pk]; rfl)
         refine pU 63 66 (bu 73 64) HT_ ?_ ?_ ?_; rotate_left; (focus simp only [pk]; rfl)
         refine pU 64 67 (bu 73 65) HT_ ?_ ?_ ?_; rotate_left; (focus simp only [pk]; rfl)
         refine pA 65 68 (bu 73 66) ?_ HT_ rfl rfl (.inl ⟨by rfl, ?_⟩) ?_ ?_ ?_; rotate_left; (focus intro w'; go_simp; with_reducible rfl); rotate_left; (focus simp only [pk]; rfl)
         refine pA 66 69 (bu 73 67) ?_ HT_ rfl rfl (.inl ⟨by rfl, ?_⟩) ?_ ?_ ?_; rotate_left; (focus intro w'; go_simp; with_reducible rfl); rotate_left; (focus simp only [pk]; rfl)
         refine pU 67 70 (bu 73 68) HT_ ?_ ?_ ?_; rotate_left; (focus simp only [pk]; rfl)
         refine pU 68 71 (bu 73 69) HT_ ?_ ?_ ?_; rotate_left; (focus simp only [pk]; rfl)
         refine pU 69 72 (bu 73 70) HT_ ?_ ?_ ?_; rotate_left; (focus simp only [pk]; rfl)
         refine pU 70 73 (bu 73 71) HT_ ?_ ?_ ?_; rotate_left; (focus simp only [pk]; rfl)
         refine pU 71 74 (bu 73 72) HT_ ?_ ?_ ?_; rotate_left; (focus simp only [pk]; rfl)
         refine pA 72 75 (bu 73 73) ?_ HT_ rfl rfl (.inl ⟨by rfl, ?_⟩) ?_ ?_ ?_; rotate_left; (focus intro w'; go_simp; with_reducible rfl); rotate_left; (focus simp only [pk]; rfl)
         refine done_ (done_of HT_.out (by kernel_rfl)) ?_
         try go_wp2
         go_ret
         exact ⟨by first | rfl | (simp [errW_none, errW_some] <;> rfl) | (simp [*, errW_none, errW_some] <;> rfl), by repeat (first | (with_reducible first | exact HB.out | apply b1 | apply b2 | apply b3 | refine below_set ?_ GE110.out) | exact HB.out)⟩
        ·rw [if_neg c21] at H
         have c21b0 : decide (a0_3 < 0) = false := decide_eq_false c21
         clear c21
         replace H := Option.bind_eq_some_iff.mp H
         obtain ⟨t111, A240, H⟩ := H
         replace H : (if a0_3 > t111 then (some 1) else (if a0_4 < a0_3 then (some 1) else ((sender_top.f a0_0 l0_1 true a0_3 a0_4 a0_5 a0_6).bind fun t112 => (if a0_4 > t112 then (some 1) else (some 0))))) = some r := H
         have A24 := Aside0.mk A240
         clear A240
         by_cases c25 : a0_3 > t111
         ·rw [if_pos c25] at H
          have c25b0 : decide (t111 < a0_3) = true := decide_eq_true c25
          clear c25
          obtain rfl := Option.some.inj H
          go_enter Try.func18, Try.ntmps18
          try go_wp2_with (first | ((with_reducible refine gate_dst (N := 1) rfl ?_); (try (refine gate_guard (by rfl) ?_; dsimp only)); refine box_event ?hg (N := 1) ?hd (cs := #[.int .i64 a0_0, .slice A0_1 l0_1.length c0_1, .bool true, .int .i64 a0_3, .int .i64 a0_4, .int .i64 a0_5, .bool a0_6]) (t := 24) ?hr ?_; (case hd => rfl); (case hg => rfl); (case hr => first | (go_simp; done) | (go_simp; rfl)); intro gb110 hg w26 hbox hb; have n0_ := Aside0.mk (below_step (by first | with_reducible exact HB.out | exact sB HB.out) hb); have n1_ := Aside0.mk (hbox); have n2_ := Aside0.mk ((by rw [hg]; exact (below_size (by first | with_reducible exact HB.out | exact sB HB.out)) : w.heap.size ≤ gb110)); have n3_ := Aside0.mk ((by rw [hg]; exact (below_size (by first | with_reducible exact HB.out | exact sB HB.out)) : w.heap.size ≤ gb110)); clear HB; have HB := n0_; have BK110 := n1_; have GW110 := n2_; have GE110 := n3_; clear n0_ n1_ n2_ n3_; clear hb hbox hg))
          have n0_ := Aside0.mk (blk_drew BK110.out)
          have n1_ := Aside0.mk (below_drew1 HB.out)
          clear BK110
          clear HB
          have BK110 := n0_
          have HB := n1_
          clear n0_ n1_
          refine start_ (n := 73) (S := fun w' => w'.cell? ⟨gb110, 0, none⟩ = some (.int .i64 a0_0) ∧ w'.cell? ⟨gb110, 1, none⟩ = some (.slice A0_1 l0_1.length c0_1) ∧ w'.cell? ⟨gb110, 2, none⟩ = some (.bool true) ∧ w'.cell? ⟨gb110, 3, none⟩ = some (.int .i64 a0_3) ∧ w'.cell? ⟨gb110, 4, none⟩ = some (.int .i64 a0_4) ∧ w'.cell? ⟨gb110, 5, none⟩ = some (.int .i64 a0_5) ∧ w'.cell? ⟨gb110, 6, none⟩ = some (.bool a0_6)) (ds := []) (bu 73 0) (by kernel_rfl) rfl rfl ⟨(blk_cell BK110.out 0).trans rfl, (blk_cell BK110.out 1).trans rfl, (blk_cell BK110.out 2).trans rfl, (blk_cell BK110.out 3).trans rfl, (blk_cell BK110.out 4).trans rfl, (blk_cell BK110.out 5).trans rfl, (blk_cell BK110.out 6).trans rfl⟩ (fun hHeld => ?_); refine with_tabW sender_Check.tab1 sender_Check.bits1 (fun HT_ HW_ => ?_)
          generalize w26.drew = w27 at BK110 HB hHeld ⊢
          refine pA 0 3 (bu 73 1) ?_ HT_ rfl rfl (.inl ⟨by rfl, ?_⟩) ?_ ?_ ?_; rotate_left; (focus intro w'; go_simp; with_reducible rfl); rotate_left; (focus simp only [pk]; rfl)
          refine tA 1 4 (bu 73 2) ?_ HT_ HW_ rfl rfl (.inl ⟨by rfl, ?_⟩) hHeld ?_ ?_ ?_; rotate_left; (focus rintro w' ⟨s0, s1, s2, s3, s4, s5, s6⟩; go_simp; with_reducible rfl); rotate_left; (focus simp only [pk]; rfl)
          refine pA 2 5 (bu 73 3) ?_ HT_ rfl rfl (.inl ⟨by rfl, ?_⟩) ?_ ?_ ?_; rotate_left; (focus intro w'; go_simp; with_reducible rfl); rotate_left; (focus simp only [pk]; rfl)
          refine pA 3 6 (bu 73 4) ?_ HT_ rfl rfl (.inl ⟨by rfl, ?_⟩) ?_ ?_ ?_; rotate_left; (focus intro w'; go_simp; with_reducible rfl); rotate_left; (focus simp only [pk]; rfl)
          refine pA 4 7 (bu 73 5) ?_ HT_ rfl rfl (.inl ⟨by rfl, ?_⟩) ?_ ?_ ?_; rotate_left; (focus intro w'; go_simp; with_reducible rfl); rotate_left; (focus simp only [pk]; rfl)
          refine tA 5 8 (bu 73 6) ?_ HT_ HW_ rfl rfl (.inl ⟨by rfl, ?_⟩) hHeld ?_ ?_ ?_; rotate_left; (focus rintro w' ⟨s0, s1, s2, s3, s4, s5, s6⟩; go_simp; with_reducible rfl); rotate_left; (focus simp only [pk]; rfl)
          refine pA 6 9 (bu 73 7) ?_ HT_ rfl rfl (.inl ⟨by rfl, ?_⟩) ?_ ?_ ?_; rotate_left; (focus intro w'; go_simp; with_reducible rfl); rotate_left; (focus simp only [pk]; rfl)
          refine pA 7 10 (bu 73 8) ?_ HT_ rfl rfl (.inl ⟨by rfl, ?_⟩) ?_ ?_ ?_; rotate_left; (focus intro w'; go_simp; with_reducible rfl); rotate_left; (focus simp only [pk]; rfl)
          refine pA 8 11 (bu 73 9) ?_ HT_ rfl rfl (.inl ⟨by rfl, ?_⟩) ?_ ?_ ?_; rotate_left; (focus intro w'; go_simp; with_reducible rfl); rotate_left; (focus simp only [pk]; rfl)
          refine pA 9 12 (bu 73 10) ?_ HT_ rfl rfl (.inl ⟨by rfl, ?_⟩) ?_ ?_ ?_; rotate_left; (focus intro w'; go_simp; with_reducible rfl); rotate_left; (focus simp only [pk]; rfl)
          refine tA 10 13 (bu 73 11) ?_ HT_ HW_ rfl rfl (.inl ⟨by rfl, ?_⟩) hHeld ?_ ?_ ?_; rotate_left; (focus rintro w' ⟨s0, s1, s2, s3, s4, s5, s6⟩; go_simp; with_reducible rfl); rotate_left; (focus simp only [pk]; rfl)
          refine pA 11 14 (bu 73 12) ?_ HT_ rfl rfl (.inl ⟨by rfl, ?_⟩) ?_ ?_ ?_; rotate_left; (focus intro w'; go_simp; with_reducible rfl); rotate_left; (focus simp only [pk]; rfl)
          refine pA 12 15 (bu 73 13) ?_ HT_ rfl rfl (.inl ⟨by rfl, ?_⟩) ?_ ?_ ?_; rotate_left; (focus intro w'; go_simp; with_reducible rfl); rotate_left; (focus simp only [pk]; rfl)
          refine pA 13 16 (bu 73 14) ?_ HT_ rfl rfl (.inl ⟨by rfl, ?_⟩) ?_ ?_ ?_; rotate_left; (focus intro w'; go_simp; with_reducible rfl); rotate_left; (focus simp only [pk]; rfl)
          refine pA 14 17 (bu 73 15) ?_ HT_ rfl rfl (.inl ⟨by rfl, ?_⟩) ?_ ?_ ?_; rotate_left; (focus intro w'; go_simp; with_reducible rfl); rotate_left; (focus simp only [pk]; rfl)
          refine pA 15 18 (bu 73 16) ?_ HT_ rfl rfl (.inl ⟨by rfl, ?_⟩) ?_ ?_ ?_; rotate_left; (focus intro w'; go_simp; with_reducible rfl); rotate_left; (focus simp only [pk]; rfl)
          refine tA 16 19 (bu 73 17) ?_ HT_ HW_ rfl rfl (.inl ⟨by rfl, ?_⟩) hHeld ?_ ?_ ?_; rotate_left; (focus rintro w' ⟨s0, s1, s2, s3, s4, s5, s6⟩; go_simp; with_reducible rfl); rotate_left; (focus simp only [pk]; rfl)
          refine pA 17 20 (bu 73 18) ?_ HT_ rfl rfl (.inl ⟨by rfl, ?_⟩) ?_ ?_ ?_; rotate_left; (focus intro w'; go_simp; with_reducible rfl); rotate_left; (focus simp only [pk]; rfl)
          refine pA 18 21 (bu 73 19) ?_ HT_ rfl rfl (.inl ⟨by rfl, ?_⟩) ?_ ?_ ?_; rotate_left; (focus intro w'; go_simp; with_reducible rfl); rotate_left; (focus simp only [pk]; rfl)
          refine pA 19 22 (bu 73 20) ?_ HT_ rfl rfl (.inl ⟨by rfl, ?_⟩) ?_ ?_ ?_; rotate_left; (focus intro w'; go_simp; with_reducible rfl); rotate_left; (focus simp only [pk]; rfl)
          refine pA 20 23 (bu 73 21) ?_ HT_ rfl rfl (.inl ⟨by rfl, ?_⟩) ?_ ?_ ?_; rotate_left; (focus intro w'; go_simp; with_reducible rfl); rotate_left; (focus simp only [pk]; rfl)
          refine pA 21 24 (bu 73 22) ?_ HT_ rfl rfl (.inl ⟨by rfl, ?_⟩) ?_ ?_ ?_; rotate_left; (focus intro w'; go_simp; with_reducible rfl); rotate_left; (focus simp only [pk]; rfl)
          refine tA 22 25 (bu 73 23) ?_ HT_ HW_ rfl rfl (.inl ⟨by rfl, ?_⟩) hHeld ?_ ?_ ?_; rotate_left; (focus rintro w' ⟨s0, s1, s2, s3, s4, s5, s6⟩; go_simp; with_reducible rfl); rotate_left; (focus simp only [pk]; rfl)
          refine pA 23 26 (bu 73 24) ?_ HT_ rfl rfl (.inl ⟨by rfl, ?_⟩) ?_ ?_ ?_; rotate_left; (focus intro w'; go_simp; with_reducible rfl); rotate_left; (focus simp only [pk]; rfl)
          refine pA 24 27 (bu 73 25) ?_ HT_ rfl rfl (.inl ⟨by rfl, ?_⟩) ?_ ?_ ?_; rotate_left; (focus intro w'; go_simp; with_reducible rfl); rotate_left; (focus simp only [pk]; rfl)
          refine pA 25 28 (bu 73 26) ?_ HT_ rfl rfl (.inl ⟨by rfl, ?_⟩) ?_ ?_ ?_; rotate_left; (focus intro w'; go_simp; with_reducible rfl); rotate_left; (focus simp only [pk]; rfl)
          refine pA 26 29 (bu 73 27) ?_ HT_ rfl rfl (.inl ⟨by rfl, ?_⟩) ?_ ?_ ?_; rotate_left; (focus intro w'; go_simp; with_reducible rfl); rotate_left; (focus simp only [pk]; rfl)
          refine tA 27 30 (bu 73 28) ?_ HT_ HW_ rfl rfl (.inl ⟨by rfl, ?_⟩) hHeld ?_ ?_ ?_; rotate_left; (focus rintro w' ⟨s0, s1, s2, s3, s4, s5, s6⟩; go_simp; with_reducible rfl); rotate_left; (focus simp only [pk]; rfl)
          refine pA 28 31 (bu 73 29) ?_ HT_ rfl rfl (.inl ⟨by rfl, ?_⟩) ?_ ?_ ?_; rotate_left; (focus intro w'; go_simp; with_reducible rfl); rotate_left; (focus simp only [pk]; rfl)
          refine pA 29 32 (bu 73 30) ?_ HT_ rfl rfl (.inl ⟨by rfl, ?_⟩) ?_ ?_ ?_; rotate_left; (focus intro w'; go_simp; with_reducible rfl); rotate_left; (focus simp only [pk]; rfl)
          refine pA 30 33 (bu 73 31) ?_ HT_ rfl rfl (.inl ⟨by rfl, ?_⟩) ?_ ?_ ?_; rotate_left; (focus intro w'; go_simp; with_reducible rfl); rotate_left; (focus simp only [pk]; rfl)
          refine pA 31 34 (bu 73 32) ?_ HT_ rfl rfl (.inl ⟨by rfl, ?_⟩) ?_ ?_ ?_; rotate_left; (focus intro w'; go_simp; with_reducible rfl); rotate_left; (focus simp only [pk]; rfl)
          refine tA 32 35 (bu 73 33) ?_ HT_ HW_ rfl rfl (.inl ⟨by rfl, ?_⟩) hHeld ?_ ?_ ?_; rotate_left; (focus rintro w' ⟨s0, s1, s2, s3, s4, s5, s6⟩; go_simp; with_reducible rfl); rotate_left; (focus simp only [pk]; rfl)
          refine pA 33 36 (bu 73 34) ?_ HT_ rfl rfl (.inl ⟨by rfl, ?_⟩) ?_ ?_ ?_; rotate_left; (focus intro w'; go_simp; with_reducible rfl); rotate_left; (focus simp only [pk]; rfl)
          refine pA 34 37 (bu 73 35) ?_ HT_ rfl rfl (.inl ⟨by rfl, ?_⟩) ?_ ?_ ?_; rotate_left; (focus intro w'; go_simp; with_reducible rfl); rotate_left; (focus simp only [pk]; rfl)
          refine pU 35 38 (bu 73 36) HT_ ?_ ?_ ?_; rotate_left; (focus simp only [pk]; rfl)
          refine pU 36 39 (bu 73 37) HT_ ?_ ?_ ?_; rotate_left; (focus simp only [pk]; rfl)
          refine pU 37 40 (bu 73 38) HT_ ?_ ?_ ?_; rotate_left; (focus simp only [pk]; rfl)
          refine pU 38 41 (bu 73 39) HT_ ?_ ?_ ?_; rotate_left; (focus simp only [pk]; rfl)
          refine pU 39 42 (bu 73 40) HT_ ?_ ?_ ?_; rotate_left; (focus simp only [pk]; rfl)
          refine pU 40 43 (bu 73 41) HT_ ?_ ?_ ?_; rotate_left; (focus simp only [pk]; rfl)
          refine pU 41 44 (bu 73 42) HT_ ?_ ?_ ?_; rotate_left; (focus simp only [pk]; rfl)
          refine pU 42 45 (bu 73 43) HT_ ?_ ?_ ?_; rotate_left; (focus simp only [pk]; rfl)
          refine pA 43 46 (bu 73 44) ?_ HT_ rfl rfl (.inl ⟨by rfl, ?_⟩) ?_ ?_ ?_; rotate_left; (focus intro w'; go_simp; with_reducible rfl); rotate_left; (focus simp only [pk]; rfl)
          refine pA 44 47 (bu 73 45) ?_ HT_ rfl rfl (.inl ⟨by rfl, ?_⟩) ?_ ?_ ?_; rotate_left; (focus intro w'; go_simp; with_reducible rfl); rotate_left; (focus simp only [pk]; rfl)
          refine pA 45 48 (bu 73 46) ?_ HT_ rfl rfl (.inl ⟨by rfl, ?_⟩) ?_ ?_ ?_; rotate_left; (focus intro w'; go_simp; with_reducible rfl); rotate_left; (focus simp only [pk]; rfl)
          refine pA 46 49 (bu 73 47) ?_ HT_ rfl rfl (.inl ⟨by rfl, ?_⟩) ?_ ?_ ?_; rotate_left; (focus intro w'; go_simp; with_reducible rfl); rotate_left; (focus simp only [pk]; rfl)
          refine tA 47 50 (bu 73 48) ?_ HT_ HW_ rfl rfl (.inl ⟨by rfl, ?_⟩) hHeld ?_ ?_ ?_; rotate_left; (focus rintro w' ⟨s0, s1, s2, s3, s4, s5, s6⟩; go_simp; with_reducible rfl); rotate_left; (focus simp only [pk]; rfl)
          refine pA 48 51 (bu 73 49) ?_ HT_ rfl rfl (.inl ⟨by rfl, ?_⟩) ?_ ?_ ?_; rotate_left; (focus intro w'; go_simp; with_reducible rfl); rotate_left; (focus simp only [pk]; rfl)
          refine pA 49 52 (bu 73 50) ?_ HT_ rfl rfl (.inl ⟨by rfl, ?_⟩) ?_ ?_ ?_; rotate_left; (focus intro w'; go_simp; with_reducible rfl); rotate_left; (focus simp only [pk]; rfl)
          refine pA 50 53 (bu 73 51) ?_ HT_ rfl rfl (.inl ⟨by rfl, ?_⟩) ?_ ?_ ?_; rotate_left; (focus intro w'; go_simp; with_reducible rfl); rotate_left; (focus simp only [pk]; rfl)
          refine pA 51 54 (bu 73 52) ?_ HT_ rfl rfl (.inl ⟨by rfl, ?_⟩) ?_ ?_ ?_; rotate_left; (focus intro w'; go_simp; with_reducible rfl); rotate_left; (focus simp only [pk]; rfl)
          refine pA 53 56 (bm 73 0x2fffffffffffff) ?_ HT_ rfl rfl (.inl ⟨by rfl, ?_⟩) ?_ ?_ ?_; rotate_left; (focus intro w'; go_simp; with_reducible rfl); rotate_left; (focus simp only [pk]; rfl)
          refine tA 52 55 (bu 73 54) ?_ HT_ HW_ rfl rfl (.inl ⟨by rfl, ?_⟩) hHeld ?_ ?_ ?_; rotate_left; (focus rintro w' ⟨s0, s1, s2, s3, s4, s5, s6⟩; go_simp; with_reducible rfl); rotate_left; (focus simp only [pk]; rfl)
          refine tA 54 57 (bu 73 55) ?_ HT_ HW_ rfl rfl (.inl ⟨by rfl, ?_⟩) hHeld ?_ ?_ ?_; rotate_left; (focus rintro w' ⟨s0, s1, s2, s3, s4, s5, s6⟩; go_simp; with_reducible rfl); rotate_left; (focus simp only [pk]; rfl)
          refine pA 55 58 (bu 73 56) ?_ HT_ rfl rfl (.inl ⟨by rfl, ?_⟩) ?_ ?_ ?_; rotate_left; (focus intro w'; go_simp; with_reducible rfl); rotate_left; (focus simp only [pk]; rfl)
          refine one_ (i := 56) (N := some 59) (bu 73 57) rfl rfl (one_of HT_.out (by kernel_rfl)) (by decide) (fun K hK => ?_)
          refine goes_ Try.func34 (by kernel_rfl) rfl #[.int .i64 (l0_1.length : Int)] (by rfl) rfl rfl (by (try simp only [List.map_toArray, List.map_cons, List.map_nil]); first | done | rfl | (simp only [List.length_drop, List.length_take]; rfl) | (go_simp; done) | (go_simp; rfl)) ?_
          with_reducible refine (sender_count.calls (l0_1.length : Int) t111 _ A24.out).mono ?_
          rintro e w' ⟨rfl, ⟨nd, rfl⟩⟩
          refine ⟨_, rfl, ?_⟩
          refine hK.out _ _ ⟨(blk_cell BK110.out 0).trans rfl, (blk_cell BK110.out 1).trans rfl, (blk_cell BK110.out 2).trans rfl, (blk_cell BK110.out 3).trans rfl, (blk_cell BK110.out 4).trans rfl, (blk_cell BK110.out 5).trans rfl, (blk_cell BK110.out 6).trans rfl⟩ (fun hHeld => ?_)
          clear hK K
          refine norm_ (a' := ?_) ?_ ?_
          rotate_left
          ·show Act.put _ (some 59) _ = _
           simp only [Act.put, List.setIfInBounds_toArray, List.set_cons_zero, List.set_cons_succ, i64_w, i32_w]
           rfl
          refine pA 57 60 (bu 73 58) ?_ HT_ rfl rfl (.inl ⟨by rfl, ?_⟩) ?_ ?_ ?_; rotate_left; (focus intro w'; go_simp; with_reducible rfl); rotate_left; (focus simp only [pk]; rfl)
          refine pA 58 61 (bu 73 59) ?_ HT_ rfl rfl (.inl ⟨by rfl, ?_⟩) ?_ ?_ ?_; rotate_left; (focus intro w'; go_simp; with_reducible rfl); rotate_left; (focus simp only [pk]; rfl)
          refine pA 59 62 (bu 73 60) ?_ HT_ rfl rfl (.inl ⟨by rfl, ?_⟩) ?_ ?_ ?_; rotate_left; (focus intro w'; go_simp; with_reducible rfl); rotate_left; (focus simp only [pk]; rfl)
          refine pU 60 63 (bu 73 61) HT_ ?_ ?_ ?_; rotate_left; (focus simp only [pk]; rfl)
          refine pU 61 64 (bu 73 62) HT_ ?_ ?_ ?_; rotate_left; (focus simp only [pk]; rfl)
          refine pU 62 65 (bu 73 63) HT_ ?_ ?_ ?_; rotate_left; (focus simp only [pk]; rfl)
          refine pU 63 66 (bu 73 64) HT_ ?_ ?_ ?_; rotate_left; (focus simp only [pk]; rfl)
          refine pU 64 67 (bu 73 65) HT_ ?_ ?_ ?_; rotate_left; (focus simp only [pk]; rfl)
          refine pA 65 68 (bu 73 66) ?_ HT_ rfl rfl (.inl ⟨by rfl, ?_⟩) ?_ ?_ ?_; rotate_left; (focus intro w'; go_simp; with_reducible rfl); rotate_left; (focus simp only [pk]; rfl)
          refine pA 66 69 (bu 73 67) ?_ HT_ rfl rfl (.inl ⟨by rfl, ?_⟩) ?_ ?_ ?_; rotate_left; (focus intro w'; go_simp; with_reducible rfl); rotate_left; (focus simp only [pk]; rfl)
          refine pU 67 70 (bu 73 68) HT_ ?_ ?_ ?_; rotate_left; (focus simp only [pk]; rfl)
          refine pU 68 71 (bu 73 69) HT_ ?_ ?_ ?_; rotate_left; (focus simp only [pk]; rfl)
          refine pU 69 72 (bu 73 70) HT_ ?_ ?_ ?_; rotate_left; (focus simp only [pk]; rfl)
          refine pU 70 73 (bu 73 71) HT_ ?_ ?_ ?_; rotate_left; (focus simp only [pk]; rfl)
          refine pU 71 74 (bu 73 72) HT_ ?_ ?_ ?_; rotate_left; (focus simp only [pk]; rfl)
          refine pA 72 75 (bu 73 73) ?_ HT_ rfl rfl (.inl ⟨by rfl, ?_⟩) ?_ ?_ ?_; rotate_left; (focus intro w'; go_simp; with_reducible rfl); rotate_left; (focus simp only [pk]; rfl)
          refine done_ (done_of HT_.out (by kernel_rfl)) ?_
          try go_wp2
          go_ret
          exact ⟨by first | rfl | (simp [errW_none, errW_some] <;> rfl) | (simp [*, errW_none, errW_some] <;> rfl), by repeat (first | (with_reducible first | exact HB.out | apply b1 | apply b2 | apply b3 | refine below_set ?_ GE110.out) | exact HB.out)⟩
         ·rw [if_neg c25] at H
          have c25b0 : decide (t111 < a0_3) = false := decide_eq_false c25
          clear c25
          by_cases c28 : a0_4 < a0_3
          ·rw [if_pos c28] at H
           have c28b0 : decide (a0_4 < a0_3) = true := decide_eq_true c28
           clear c28
           obtain rfl := Option.some.inj H
           go_enter Try.func18, Try.ntmps18
           try go_wp2_with (first | ((with_reducible refine gate_dst (N := 1) rfl ?_); (try (refine gate_guard (by rfl) ?_; dsimp only)); refine box_event ?hg (N := 1) ?hd (cs := #[.int .i64 a0_0, .slice A0_1 l0_1.length c0_1, .bool true, .int .i64 a0_3, .int .i64 a0_4, .int .i64 a0_5, .bool a0_6]) (t := 24) ?hr ?_; (case hd => rfl); (case hg => rfl); (case hr => first | (go_simp; done) | (go_simp; rfl)); intro gb110 hg w29 hbox hb; have n0_ := Aside0.mk (below_step (by first | with_reducible exact HB.out | exact sB HB.out) hb); have n1_ := Aside0.mk (hbox); have n2_ := Aside0.mk ((by rw [hg]; exact (below_size (by first | with_reducible exact HB.out | exact sB HB.out)) : w.heap.size ≤ gb110)); have n3_ := Aside0.mk ((by rw [hg]; exact (below_size (by first | with_reducible exact HB.out | exact sB HB.out)) : w.heap.size ≤ gb110)); clear HB; have HB := n0_; have BK110 := n1_; have GW110 := n2_; have GE110 := n3_; clear n0_ n1_ n2_ n3_; clear hb hbox hg))
           have n0_ := Aside0.mk (blk_drew BK110.out)
           have n1_ := Aside0.mk (below_drew1 HB.out)
           clear BK110
           clear HB
           have BK110 := n0_
           have HB := n1_
           clear n0_ n1_
           refine start_ (n := 73) (S := fun w' => w'.cell? ⟨gb110, 0, none⟩ = some (.int .i64 a0_0) ∧ w'.cell? ⟨gb110, 1, none⟩ = some (.slice A0_1 l0_1.length c0_1) ∧ w'.cell? ⟨gb110, 2, none⟩ = some (.bool true) ∧ w'.cell? ⟨gb110, 3, none⟩ = some (.int .i64 a0_3) ∧ w'.cell? ⟨gb110, 4, none⟩ = some (.int .i64 a0_4) ∧ w'.cell? ⟨gb110, 5, none⟩ = some (.int .i64 a0_5) ∧ w'.cell? ⟨gb110, 6, none⟩ = some (.bool a0_6)) (ds := []) (bu 73 0) (by kernel_rfl) rfl rfl ⟨(blk_cell BK110.out 0).trans rfl, (blk_cell BK110.out 1).trans rfl, (blk_cell BK110.out 2).trans rfl, (blk_cell BK110.out 3).trans rfl, (blk_cell BK110.out 4).trans rfl, (blk_cell BK110.out 5).trans rfl, (blk_cell BK110.out 6).trans rfl⟩ (fun hHeld => ?_); refine with_tabW sender_Check.tab1 sender_Check.bits1 (fun HT_ HW_ => ?_)
           generalize w29.drew = w30 at BK110 HB hHeld ⊢
           refine pA 0 3 (bu 73 1) ?_ HT_ rfl rfl (.inl ⟨by rfl, ?_⟩) ?_ ?_ ?_; rotate_left; (focus intro w'; go_simp; with_reducible rfl); rotate_left; (focus simp only [pk]; rfl)
           refine tA 1 4 (bu 73 2) ?_ HT_ HW_ rfl rfl (.inl ⟨by rfl, ?_⟩) hHeld ?_ ?_ ?_; rotate_left; (focus rintro w' ⟨s0, s1, s2, s3, s4, s5, s6⟩; go_simp; with_reducible rfl); rotate_left; (focus simp only [pk]; rfl)
           refine pA 2 5 (bu 73 3) ?_ HT_ rfl rfl (.inl ⟨by rfl, ?_⟩) ?_ ?_ ?_; rotate_left; (focus intro w'; go_simp; with_reducible rfl); rotate_left; (focus simp only [pk]; rfl)
           refine pA 3 6 (bu 73 4) ?_ HT_ rfl rfl (.inl ⟨by rfl, ?_⟩) ?_ ?_ ?_; rotate_left; (focus intro w'; go_simp; with_reducible rfl); rotate_left; (focus simp only [pk]; rfl)
           refine pA 4 7 (bu 73 5) ?_ HT_ rfl rfl (.inl ⟨by rfl, ?_⟩) ?_ ?_ ?_; rotate_left; (focus intro w'; go_simp; with_reducible rfl); rotate_left; (focus simp only [pk]; rfl)
           refine tA 5 8 (bu 73 6) ?_ HT_ HW_ rfl rfl (.inl ⟨by rfl, ?_⟩) hHeld ?_ ?_ ?_; rotate_left; (focus rintro w' ⟨s0, s1, s2, s3, s4, s5, s6⟩; go_simp; with_reducible rfl); rotate_left; (focus simp only [pk]; rfl)
           refine pA 6 9 (bu 73 7) ?_ HT_ rfl rfl (.inl ⟨by rfl, ?_⟩) ?_ ?_ ?_; rotate_left; (focus intro w'; go_simp; with_reducible rfl); rotate_left; (focus simp only [pk]; rfl)
           refine pA 7 10 (bu 73 8) ?_ HT_ rfl rfl (.inl ⟨by rfl, ?_⟩) ?_ ?_ ?_; rotate_left; (focus intro w'; go_simp; with_reducible rfl); rotate_left; (focus simp only [pk]; rfl)
           refine pA 8 11 (bu 73 9) ?_ HT_ rfl rfl (.inl ⟨by rfl, ?_⟩) ?_ ?_ ?_; rotate_left; (focus intro w'; go_simp; with_reducible rfl); rotate_left; (focus simp only [pk]; rfl)
           refine pA 9 12 (bu 73 10) ?_ HT_ rfl rfl (.inl ⟨by rfl, ?_⟩) ?_ ?_ ?_; rotate_left; (focus intro w'; go_simp; with_reducible rfl); rotate_left; (focus simp only [pk]; rfl)
           refine tA 10 13 (bu 73 11) ?_ HT_ HW_ rfl rfl (.inl ⟨by rfl, ?_⟩) hHeld ?_ ?_ ?_; rotate_left; (focus rintro w' ⟨s0, s1, s2, s3, s4, s5, s6⟩; go_simp; with_reducible rfl); rotate_left; (focus simp only [pk]; rfl)
           refine pA 11 14 (bu 73 12) ?_ HT_ rfl rfl (.inl ⟨by rfl, ?_⟩) ?_ ?_ ?_; rotate_left; (focus intro w'; go_simp; with_reducible rfl); rotate_left; (focus simp only [pk]; rfl)
           refine pA 12 15 (bu 73 13) ?_ HT_ rfl rfl (.inl ⟨by rfl, ?_⟩) ?_ ?_ ?_; rotate_left; (focus intro w'; go_simp; with_reducible rfl); rotate_left; (focus simp only [pk]; rfl)
           refine pA 13 16 (bu 73 14) ?_ HT_ rfl rfl (.inl ⟨by rfl, ?_⟩) ?_ ?_ ?_; rotate_left; (focus intro w'; go_simp; with_reducible rfl); rotate_left; (focus simp only [pk]; rfl)
           refine pA 14 17 (bu 73 15) ?_ HT_ rfl rfl (.inl ⟨by rfl, ?_⟩) ?_ ?_ ?_; rotate_left; (focus intro w'; go_simp; with_reducible rfl); rotate_left; (focus simp only [pk]; rfl)
           refine pA 15 18 (bu 73 16) ?_ HT_ rfl rfl (.inl ⟨by rfl, ?_⟩) ?_ ?_ ?_; rotate_left; (focus intro w'; go_simp; with_reducible rfl); rotate_left; (focus simp only [pk]; rfl)
           refine tA 16 19 (bu 73 17) ?_ HT_ HW_ rfl rfl (.inl ⟨by rfl, ?_⟩) hHeld ?_ ?_ ?_; rotate_left; (focus rintro w' ⟨s0, s1, s2, s3, s4, s5, s6⟩; go_simp; with_reducible rfl); rotate_left; (focus simp only [pk]; rfl)
           refine pA 17 20 (bu 73 18) ?_ HT_ rfl rfl (.inl ⟨by rfl, ?_⟩) ?_ ?_ ?_; rotate_left; (focus intro w'; go_simp; with_reducible rfl); rotate_left; (focus simp only [pk]; rfl)
           refine pA 18 21 (bu 73 19) ?_ HT_ rfl rfl (.inl ⟨by rfl, ?_⟩) ?_ ?_ ?_; rotate_left; (focus intro w'; go_simp; with_reducible rfl); rotate_left; (focus simp only [pk]; rfl)
           refine pA 19 22 (bu 73 20) ?_ HT_ rfl rfl (.inl ⟨by rfl, ?_⟩) ?_ ?_ ?_; rotate_left; (focus intro w'; go_simp; with_reducible rfl); rotate_left; (focus simp only [pk]; rfl)
           refine pA 20 23 (bu 73 21) ?_ HT_ rfl rfl (.inl ⟨by rfl, ?_⟩) ?_ ?_ ?_; rotate_left; (focus intro w'; go_simp; with_reducible rfl); rotate_left; (focus simp only [pk]; rfl)
           refine pA 21 24 (bu 73 22) ?_ HT_ rfl rfl (.inl ⟨by rfl, ?_⟩) ?_ ?_ ?_; rotate_left; (focus intro w'; go_simp; with_reducible rfl); rotate_left; (focus simp only [pk]; rfl)
           refine tA 22 25 (bu 73 23) ?_ HT_ HW_ rfl rfl (.inl ⟨by rfl, ?_⟩) hHeld ?_ ?_ ?_; rotate_left; (focus rintro w' ⟨s0, s1, s2, s3, s4, s5, s6⟩; go_simp; with_reducible rfl); rotate_left; (focus simp only [pk]; rfl)
           refine pA 23 26 (bu 73 24) ?_ HT_ rfl rfl (.inl ⟨by rfl, ?_⟩) ?_ ?_ ?_; rotate_left; (focus intro w'; go_simp; with_reducible rfl); rotate_left; (focus simp only [pk]; rfl)
           refine pA 24 27 (bu 73 25) ?_ HT_ rfl rfl (.inl ⟨by rfl, ?_⟩) ?_ ?_ ?_; rotate_left; (focus intro w'; go_simp; with_reducible rfl); rotate_left; (focus simp only [pk]; rfl)
           refine pA 25 28 (bu 73 26) ?_ HT_ rfl rfl (.inl ⟨by rfl, ?_⟩) ?_ ?_ ?_; rotate_left; (focus intro w'; go_simp; with_reducible rfl); rotate_left; (focus simp only [pk]; rfl)
           refine pA 26 29 (bu 73 27) ?_ HT_ rfl rfl (.inl ⟨by rfl, ?_⟩) ?_ ?_ ?_; rotate_left; (focus intro w'; go_simp; with_reducible rfl); rotate_left; (focus simp only [pk]; rfl)
           refine tA 27 30 (bu 73 28) ?_ HT_ HW_ rfl rfl (.inl ⟨by rfl, ?_⟩) hHeld ?_ ?_ ?_; rotate_left; (focus rintro w' ⟨s0, s1, s2, s3, s4, s5, s6⟩; go_simp; with_reducible rfl); rotate_left; (focus simp only [pk]; rfl)
           refine pA 28 31 (bu 73 29) ?_ HT_ rfl rfl (.inl ⟨by rfl, ?_⟩) ?_ ?_ ?_; rotate_left; (focus intro w'; go_simp; with_reducible rfl); rotate_left; (focus simp only [pk]; rfl)
           refine pA 29 32 (bu 73 30) ?_ HT_ rfl rfl (.inl ⟨by rfl, ?_⟩) ?_ ?_ ?_; rotate_left; (focus intro w'; go_simp; with_reducible rfl); rotate_left; (focus simp only [pk]; rfl)
           refine pA 30 33 (bu 73 31) ?_ HT_ rfl rfl (.inl ⟨by rfl, ?_⟩) ?_ ?_ ?_; rotate_left; (focus intro w'; go_simp; with_reducible rfl); rotate_left; (focus simp only [pk]; rfl)
           refine pA 31 34 (bu 73 32) ?_ HT_ rfl rfl (.inl ⟨by rfl, ?_⟩) ?_ ?_ ?_; rotate_left; (focus intro w'; go_simp; with_reducible rfl); rotate_left; (focus simp only [pk]; rfl)
           refine tA 32 35 (bu 73 33) ?_ HT_ HW_ rfl rfl (.inl ⟨by rfl, ?_⟩) hHeld ?_ ?_ ?_; rotate_left; (focus rintro w' ⟨s0, s1, s2, s3, s4, s5, s6⟩; go_simp; with_reducible rfl); rotate_left; (focus simp only [pk]; rfl)
           refine pA 33 36 (bu 73 34) ?_ HT_ rfl rfl (.inl ⟨by rfl, ?_⟩) ?_ ?_ ?_; rotate_left; (focus intro w'; go_simp; with_reducible rfl); rotate_left; (focus simp only [pk]; rfl)
           refine pA 34 37 (bu 73 35) ?_ HT_ rfl rfl (.inl ⟨by rfl, ?_⟩) ?_ ?_ ?_; rotate_left; (focus intro w'; go_simp; with_reducible rfl); rotate_left; (focus simp only [pk]; rfl)
           refine pU 35 38 (bu 73 36) HT_ ?_ ?_ ?_; rotate_left; (focus simp only [pk]; rfl)
           refine pU 36 39 (bu 73 37) HT_ ?_ ?_ ?_; rotate_left; (focus simp only [pk]; rfl)
           refine pU 37 40 (bu 73 38) HT_ ?_ ?_ ?_; rotate_left; (focus simp only [pk]; rfl)
           refine pU 38 41 (bu 73 39) HT_ ?_ ?_ ?_; rotate_left; (focus simp only [pk]; rfl)
           refine pU 39 42 (bu 73 40) HT_ ?_ ?_ ?_; rotate_left; (focus simp only [pk]; rfl)
           refine pU 40 43 (bu 73 41) HT_ ?_ ?_ ?_; rotate_left; (focus simp only [pk]; rfl)
           refine pU 41 44 (bu 73 42) HT_ ?_ ?_ ?_; rotate_left; (focus simp only [pk]; rfl)
           refine pU 42 45 (bu 73 43) HT_ ?_ ?_ ?_; rotate_left; (focus simp only [pk]; rfl)
           refine pA 43 46 (bu 73 44) ?_ HT_ rfl rfl (.inl ⟨by rfl, ?_⟩) ?_ ?_ ?_; rotate_left; (focus intro w'; go_simp; with_reducible rfl); rotate_left; (focus simp only [pk]; rfl)
           refine pA 44 47 (bu 73 45) ?_ HT_ rfl rfl (.inl ⟨by rfl, ?_⟩) ?_ ?_ ?_; rotate_left; (focus intro w'; go_simp; with_reducible rfl); rotate_left; (focus simp only [pk]; rfl)
           refine pA 45 48 (bu 73 46) ?_ HT_ rfl rfl (.inl ⟨by rfl, ?_⟩) ?_ ?_ ?_; rotate_left; (focus intro w'; go_simp; with_reducible rfl); rotate_left; (focus simp only [pk]; rfl)
           refine pA 46 49 (bu 73 47) ?_ HT_ rfl rfl (.inl ⟨by rfl, ?_⟩) ?_ ?_ ?_; rotate_left; (focus intro w'; go_simp; with_reducible rfl); rotate_left; (focus simp only [pk]; rfl)
           refine tA 47 50 (bu 73 48) ?_ HT_ HW_ rfl rfl (.inl ⟨by rfl, ?_⟩) hHeld ?_ ?_ ?_; rotate_left; (focus rintro w' ⟨s0, s1, s2, s3, s4, s5, s6⟩; go_simp; with_reducible rfl); rotate_left; (focus simp only [pk]; rfl)
           refine pA 48 51 (bu 73 49) ?_ HT_ rfl rfl (.inl ⟨by rfl, ?_⟩) ?_ ?_ ?_; rotate_left; (focus intro w'; go_simp; with_reducible rfl); rotate_left; (focus simp only [pk]; rfl)
           refine pA 49 52 (bu 73 50) ?_ HT_ rfl rfl (.inl ⟨by rfl, ?_⟩) ?_ ?_ ?_; rotate_left; (focus intro w'; go_simp; with_reducible rfl); rotate_left; (focus simp only [pk]; rfl)
           refine pA 50 53 (bu 73 51) ?_ HT_ rfl rfl (.inl ⟨by rfl, ?_⟩) ?_ ?_ ?_; rotate_left; (focus intro w'; go_simp; with_reducible rfl); rotate_left; (focus simp only [pk]; rfl)
           refine pA 51 54 (bu 73 52) ?_ HT_ rfl rfl (.inl ⟨by rfl, ?_⟩) ?_ ?_ ?_; rotate_left; (focus intro w'; go_simp; with_reducible rfl); rotate_left; (focus simp only [pk]; rfl)
           refine pA 53 56 (bm 73 0x2fffffffffffff) ?_ HT_ rfl rfl (.inl ⟨by rfl, ?_⟩) ?_ ?_ ?_; rotate_left; (focus intro w'; go_simp; with_reducible rfl); rotate_left; (focus simp only [pk]; rfl)
           refine tA 52 55 (bu 73 54) ?_ HT_ HW_ rfl rfl (.inl ⟨by rfl, ?_⟩) hHeld ?_ ?_ ?_; rotate_left; (focus rintro w' ⟨s0, s1, s2, s3, s4, s5, s6⟩; go_simp; with_reducible rfl); rotate_left; (focus simp only [pk]; rfl)
           refine tA 54 57 (bu 73 55) ?_ HT_ HW_ rfl rfl (.inl ⟨by rfl, ?_⟩) hHeld ?_ ?_ ?_; rotate_left; (focus rintro w' ⟨s0, s1, s2, s3, s4, s5, s6⟩; go_simp; with_reducible rfl); rotate_left; (focus simp only [pk]; rfl)
           refine pA 55 58 (bu 73 56) ?_ HT_ rfl rfl (.inl ⟨by rfl, ?_⟩) ?_ ?_ ?_; rotate_left; (focus intro w'; go_simp; with_reducible rfl); rotate_left; (focus simp only [pk]; rfl)
           refine one_ (i := 56) (N := some 59) (bu 73 57) rfl rfl (one_of HT_.out (by kernel_rfl)) (by decide) (fun K hK => ?_)
           refine goes_ Try.func34 (by kernel_rfl) rfl #[.int .i64 (l0_1.length : Int)] (by rfl) rfl rfl (by (try simp only [List.map_toArray, List.map_cons, List.map_nil]); first | done | rfl | (simp only [List.length_drop, List.length_take]; rfl) | (go_simp; done) | (go_simp; rfl)) ?_
           with_reducible refine (sender_count.calls (l0_1.length : Int) t111 _ A24.out).mono ?_
           rintro e w' ⟨rfl, ⟨nd, rfl⟩⟩
           refine ⟨_, rfl, ?_⟩
           refine hK.out _ _ ⟨(blk_cell BK110.out 0).trans rfl, (blk_cell BK110.out 1).trans rfl, (blk_cell BK110.out 2).trans rfl, (blk_cell BK110.out 3).trans rfl, (blk_cell BK110.out 4).trans rfl, (blk_cell BK110.out 5).trans rfl, (blk_cell BK110.out 6).trans rfl⟩ (fun hHeld => ?_)
           clear hK K
           refine norm_ (a' := ?_) ?_ ?_
           rotate_left
           ·show Act.put _ (some 59) _ = _
            simp only [Act.put, List.setIfInBounds_toArray, List.set_cons_zero, List.set_cons_succ, i64_w, i32_w]
            rfl
           refine pA 57 60 (bu 73 58) ?_ HT_ rfl rfl (.inl ⟨by rfl, ?_⟩) ?_ ?_ ?_; rotate_left; (focus intro w'; go_simp; with_reducible rfl); rotate_left; (focus simp only [pk]; rfl)
           refine pA 58 61 (bu 73 59) ?_ HT_ rfl rfl (.inl ⟨by rfl, ?_⟩) ?_ ?_ ?_; rotate_left; (focus intro w'; go_simp; with_reducible rfl); rotate_left; (focus simp only [pk]; rfl)
           refine pA 59 62 (bu 73 60) ?_ HT_ rfl rfl (.inl ⟨by rfl, ?_⟩) ?_ ?_ ?_; rotate_left; (focus intro w'; go_simp; with_reducible rfl); rotate_left; (focus simp only [pk]; rfl)
           refine pA 60 63 (bu 73 61) ?_ HT_ rfl rfl (.inl ⟨by rfl, ?_⟩) ?_ ?_ ?_; rotate_left; (focus intro w'; go_simp; with_reducible rfl); rotate_left; (focus simp only [pk]; rfl)
           refine pA 62 65 (bm 73 0x5fffffffffffffff) ?_ HT_ rfl rfl (.inl ⟨by rfl, ?_⟩) ?_ ?_ ?_; rotate_left; (focus intro w'; go_simp; with_reducible rfl); rotate_left; (focus simp only [pk]; rfl)
           refine tA 61 64 (bu 73 63) ?_ HT_ HW_ rfl rfl (.inl ⟨by rfl, ?_⟩) hHeld ?_ ?_ ?_; rotate_left; (focus rintro w' ⟨s0, s1, s2, s3, s4, s5, s6⟩; go_simp; with_reducible rfl); rotate_left; (focus simp only [pk]; rfl)
           refine tA 63 66 (bu 73 64) ?_ HT_ HW_ rfl rfl (.inl ⟨by rfl, ?_⟩) hHeld ?_ ?_ ?_; rotate_left; (focus rintro w' ⟨s0, s1, s2, s3, s4, s5, s6⟩; go_simp; with_reducible rfl); rotate_left; (focus simp only [pk]; rfl)
           refine pA 64 67 (bu 73 65) ?_ HT_ rfl rfl (.inl ⟨by rfl, ?_⟩) ?_ ?_ ?_; rotate_left; (focus intro w'; go_simp; with_reducible rfl); rotate_left; (focus simp only [pk]; rfl)
           refine pA 65 68 (bu 73 66) ?_ HT_ rfl rfl (.inl ⟨by rfl, ?_⟩) ?_ ?_ ?_; rotate_left; (focus intro w'; go_simp; with_reducible rfl); rotate_left; (focus simp only [pk]; rfl)
           refine pA 66 69 (bu 73 67) ?_ HT_ rfl rfl (.inl ⟨by rfl, ?_⟩) ?_ ?_ ?_; rotate_left; (focus intro w'; go_simp; with_reducible rfl); rotate_left; (focus simp only [pk]; rfl)
           refine pU 67 70 (bu 73 68) HT_ ?_ ?_ ?_; rotate_left; (focus simp only [pk]; rfl)
           refine pU 68 71 (bu 73 69) HT_ ?_ ?_ ?_; rotate_left; (focus simp only [pk]; rfl)
           refine pU 69 72 (bu 73 70) HT_ ?_ ?_ ?_; rotate_left; (focus simp only [pk]; rfl)
           refine pU 70 73 (bu 73 71) HT_ ?_ ?_ ?_; rotate_left; (focus simp only [pk]; rfl)
           refine pU 71 74 (bu 73 72) HT_ ?_ ?_ ?_; rotate_left; (focus simp only [pk]; rfl)
           refine pA 72 75 (bu 73 73) ?_ HT_ rfl rfl (.inl ⟨by rfl, ?_⟩) ?_ ?_ ?_; rotate_left; (focus intro w'; go_simp; with_reducible rfl); rotate_left; (focus simp only [pk]; rfl)
           refine done_ (done_of HT_.out (by kernel_rfl)) ?_
           try go_wp2
           go_ret
           exact ⟨by first | rfl | (simp [errW_none, errW_some] <;> rfl) | (simp [*, errW_none, errW_some] <;> rfl), by repeat (first | (with_reducible first | exact HB.out | apply b1 | apply b2 | apply b3 | refine below_set ?_ GE110.out) | exact HB.out)⟩
          ·rw [if_neg c28] at H
           have c28b0 : decide (a0_4 < a0_3) = false := decide_eq_false c28
           clear c28
           replace H := Option.bind_eq_some_iff.mp H
           obtain ⟨t112, A310, H⟩ := H
           replace H : (if a0_4 > t112 then (some 1) else (some 0)) = some r := H
           have A31 := Aside0.mk A310
           clear A310
           by_cases c32 : a0_4 > t112
           ·rw [if_pos c32] at H
            have c32b0 : decide (t112 < a0_4) = true := decide_eq_true c32
            clear c32
            obtain rfl := Option.some.inj H
            go_enter Try.func18, Try.ntmps18
            try go_wp2_with (first | ((with_reducible refine gate_dst (N := 1) rfl ?_); (try (refine gate_guard (by rfl) ?_; dsimp only)); refine box_event ?hg (N := 1) ?hd (cs := #[.int .i64 a0_0, .slice A0_1 l0_1.length c0_1, .bool true, .int .i64 a0_3, .int .i64 a0_4, .int .i64 a0_5, .bool a0_6]) (t := 24) ?hr ?_; (case hd => rfl); (case hg => rfl); (case hr => first | (go_simp; done) | (go_simp; rfl)); intro gb110 hg w33 hbox hb; have n0_ := Aside0.mk (below_step (by first | with_reducible exact HB.out | exact sB HB.out) hb); have n1_ := Aside0.mk (hbox); have n2_ := Aside0.mk ((by rw [hg]; exact (below_size (by first | with_reducible exact HB.out | exact sB HB.out)) : w.heap.size ≤ gb110)); have n3_ := Aside0.mk ((by rw [hg]; exact (below_size (by first | with_reducible exact HB.out | exact sB HB.out)) : w.heap.size ≤ gb110)); clear HB; have HB := n0_; have BK110 := n1_; have GW110 := n2_; have GE110 := n3_; clear n0_ n1_ n2_ n3_; clear hb hbox hg))
            have n0_ := Aside0.mk (blk_drew BK110.out)
            have n1_ := Aside0.mk (below_drew1 HB.out)
            clear BK110
            clear HB
            have BK110 := n0_
            have HB := n1_
            clear n0_ n1_
            refine start_ (n := 73) (S := fun w' => w'.cell? ⟨gb110, 0, none⟩ = some (.int .i64 a0_0) ∧ w'.cell? ⟨gb110, 1, none⟩ = some (.slice A0_1 l0_1.length c0_1) ∧ w'.cell? ⟨gb110, 2, none⟩ = some (.bool true) ∧ w'.cell? ⟨gb110, 3, none⟩ = some (.int .i64 a0_3) ∧ w'.cell? ⟨gb110, 4, none⟩ = some (.int .i64 a0_4) ∧ w'.cell? ⟨gb110, 5, none⟩ = some (.int .i64 a0_5) ∧ w'.cell? ⟨gb110, 6, none⟩ = some (.bool a0_6)) (ds := []) (bu 73 0) (by kernel_rfl) rfl rfl ⟨(blk_cell BK110.out 0).trans rfl, (blk_cell BK110.out 1).trans rfl, (blk_cell BK110.out 2).trans rfl, (blk_cell BK110.out 3).trans rfl, (blk_cell BK110.out 4).trans rfl, (blk_cell BK110.out 5).trans rfl, (blk_cell BK110.out 6).trans rfl⟩ (fun hHeld => ?_); refine with_tabW sender_Check.tab1 sender_Check.bits1 (fun HT_ HW_ => ?_)
            generalize w33.drew = w34 at BK110 HB hHeld ⊢
            refine pA 0 3 (bu 73 1) ?_ HT_ rfl rfl (.inl ⟨by rfl, ?_⟩) ?_ ?_ ?_; rotate_left; (focus intro w'; go_simp; with_reducible rfl); rotate_left; (focus simp only [pk]; rfl)
            refine tA 1 4 (bu 73 2) ?_ HT_ HW_ rfl rfl (.inl ⟨by rfl, ?_⟩) hHeld ?_ ?_ ?_; rotate_left; (focus rintro w' ⟨s0, s1, s2, s3, s4, s5, s6⟩; go_simp; with_reducible rfl); rotate_left; (focus simp only [pk]; rfl)
            refine pA 2 5 (bu 73 3) ?_ HT_ rfl rfl (.inl ⟨by rfl, ?_⟩) ?_ ?_ ?_; rotate_left; (focus intro w'; go_simp; with_reducible rfl); rotate_left; (focus simp only [pk]; rfl)
            refine pA 3 6 (bu 73 4) ?_ HT_ rfl rfl (.inl ⟨by rfl, ?_⟩) ?_ ?_ ?_; rotate_left; (focus intro w'; go_simp; with_reducible rfl); rotate_left; (focus simp only [pk]; rfl)
            refine pA 4 7 (bu 73 5) ?_ HT_ rfl rfl (.inl ⟨by rfl, ?_⟩) ?_ ?_ ?_; rotate_left; (focus intro w'; go_simp; with_reducible rfl); rotate_left; (focus simp only [pk]; rfl)
            refine tA 5 8 (bu 73 6) ?_ HT_ HW_ rfl rfl (.inl ⟨by rfl, ?_⟩) hHeld ?_ ?_ ?_; rotate_left; (focus rintro w' ⟨s0, s1, s2, s3, s4, s5, s6⟩; go_simp; with_reducible rfl); rotate_left; (focus simp only [pk]; rfl)
            refine pA 6 9 (bu 73 7) ?_ HT_ rfl rfl (.inl ⟨by rfl, ?_⟩) ?_ ?_ ?_; rotate_left; (focus intro w'; go_simp; with_reducible rfl); rotate_left; (focus simp only [pk]; rfl)
            refine pA 7 10 (bu 73 8) ?_ HT_ rfl rfl (.inl ⟨by rfl, ?_⟩) ?_ ?_ ?_; rotate_left; (focus intro w'; go_simp; with_reducible rfl); rotate_left; (focus simp only [pk]; rfl)
            refine pA 8 11 (bu 73 9) ?_ HT_ rfl rfl (.inl ⟨by rfl, ?_⟩) ?_ ?_ ?_; rotate_left; (focus intro w'; go_simp; with_reducible rfl); rotate_left; (focus simp only [pk]; rfl)
            refine pA 9 12 (bu 73 10) ?_ HT_ rfl rfl (.inl ⟨by rfl, ?_⟩) ?_ ?_ ?_; rotate_left; (focus intro w'; go_simp; with_reducible rfl); rotate_left; (focus simp only [pk]; rfl)
            refine tA 10 13 (bu 73 11) ?_ HT_ HW_ rfl rfl (.inl ⟨by rfl, ?_⟩) hHeld ?_ ?_ ?_; rotate_left; (focus rintro w' ⟨s0, s1, s2, s3, s4, s5, s6⟩; go_simp; with_reducible rfl); rotate_left; (focus simp only [pk]; rfl)
            refine pA 11 14 (bu 73 12) ?_ HT_ rfl rfl (.inl ⟨by rfl, ?_⟩) ?_ ?_ ?_; rotate_left; (focus intro w'; go_simp; with_reducible rfl); rotate_left; (focus simp only [pk]; rfl)
            refine pA 12 15 (bu 73 13) ?_ HT_ rfl rfl (.inl ⟨by rfl, ?_⟩) ?_ ?_ ?_; rotate_left; (focus intro w'; go_simp; with_reducible rfl); rotate_left; (focus simp only [pk]; rfl)
            refine pA 13 16 (bu 73 14) ?_ HT_ rfl rfl (.inl ⟨by rfl, ?_⟩) ?_ ?_ ?_; rotate_left; (focus intro w'; go_simp; with_reducible rfl); rotate_left; (focus simp only [pk]; rfl)
            refine pA 14 17 (bu 73 15) ?_ HT_ rfl rfl (.inl ⟨by rfl, ?_⟩) ?_ ?_ ?_; rotate_left; (focus intro w'; go_simp; with_reducible rfl); rotate_left; (focus simp only [pk]; rfl)
            refine pA 15 18 (bu 73 16) ?_ HT_ rfl rfl (.inl ⟨by rfl, ?_⟩) ?_ ?_ ?_; rotate_left; (focus intro w'; go_simp; with_reducible rfl); rotate_left; (focus simp only [pk]; rfl)
            refine tA 16 19 (bu 73 17) ?_ HT_ HW_ rfl rfl (.inl ⟨by rfl, ?_⟩) hHeld ?_ ?_ ?_; rotate_left; (focus rintro w' ⟨s0, s1, s2, s3, s4, s5, s6⟩; go_simp; with_reducible rfl); rotate_left; (focus simp only [pk]; rfl)
            refine pA 17 20 (bu 73 18) ?_ HT_ rfl rfl (.inl ⟨by rfl, ?_⟩) ?_ ?_ ?_; rotate_left; (focus intro w'; go_simp; with_reducible rfl); rotate_left; (focus simp only [pk]; rfl)
            refine pA 18 21 (bu 73 19) ?_ HT_ rfl rfl (.inl ⟨by rfl, ?_⟩) ?_ ?_ ?_; rotate_left; (focus intro w'; go_simp; with_reducible rfl); rotate_left; (focus simp only [pk]; rfl)
            refine pA 19 22 (bu 73 20) ?_ HT_ rfl rfl (.inl ⟨by rfl, ?_⟩) ?_ ?_ ?_; rotate_left; (focus intro w'; go_simp; with_reducible rfl); rotate_left; (focus simp only [pk]; rfl)
            refine pA 20 23 (bu 73 21) ?_ HT_ rfl rfl (.inl ⟨by rfl, ?_⟩) ?_ ?_ ?_; rotate_left; (focus intro w'; go_simp; with_reducible rfl); rotate_left; (focus simp only [pk]; rfl)
            refine pA 21 24 (bu 73 22) ?_ HT_ rfl rfl (.inl ⟨by rfl, ?_⟩) ?_ ?_ ?_; rotate_left; (focus intro w'; go_simp; with_reducible rfl); rotate_left; (focus simp only [pk]; rfl)
            refine tA 22 25 (bu 73 23) ?_ HT_ HW_ rfl rfl (.inl ⟨by rfl, ?_⟩) hHeld ?_ ?_ ?_; rotate_left; (focus rintro w' ⟨s0, s1, s2, s3, s4, s5, s6⟩; go_simp; with_reducible rfl); rotate_left; (focus simp only [pk]; rfl)
            refine pA 23 26 (bu 73 24) ?_ HT_ rfl rfl (.inl ⟨by rfl, ?_⟩) ?_ ?_ ?_; rotate_left; (focus intro w'; go_simp; with_reducible rfl); rotate_left; (focus simp only [pk]; rfl)
            refine pA 24 27 (bu 73 25) ?_ HT_ rfl rfl (.inl ⟨by rfl, ?_⟩) ?_ ?_ ?_; rotate_left; (focus intro w'; go_simp; with_reducible rfl); rotate_left; (focus simp only [pk]; rfl)
            refine pA 25 28 (bu 73 26) ?_ HT_ rfl rfl (.inl ⟨by rfl, ?_⟩) ?_ ?_ ?_; rotate_left; (focus intro w'; go_simp; with_reducible rfl); rotate_left; (focus simp only [pk]; rfl)
            refine pA 26 29 (bu 73 27) ?_ HT_ rfl rfl (.inl ⟨by rfl, ?_⟩) ?_ ?_ ?_; rotate_left; (focus intro w'; go_simp; with_reducible rfl); rotate_left; (focus simp only [pk]; rfl)
            refine tA 27 30 (bu 73 28) ?_ HT_ HW_ rfl rfl (.inl ⟨by rfl, ?_⟩) hHeld ?_ ?_ ?_; rotate_left; (focus rintro w' ⟨s0, s1, s2, s3, s4, s5, s6⟩; go_simp; with_reducible rfl); rotate_left; (focus simp only [pk]; rfl)
            refine pA 28 31 (bu 73 29) ?_ HT_ rfl rfl (.inl ⟨by rfl, ?_⟩) ?_ ?_ ?_; rotate_left; (focus intro w'; go_simp; with_reducible rfl); rotate_left; (focus simp only [pk]; rfl)
            refine pA 29 32 (bu 73 30) ?_ HT_ rfl rfl (.inl ⟨by rfl, ?_⟩) ?_ ?_ ?_; rotate_left; (focus intro w'; go_simp; with_reducible rfl); rotate_left; (focus simp only [pk]; rfl)
            refine pA 30 33 (bu 73 31) ?_ HT_ rfl rfl (.inl ⟨by rfl, ?_⟩) ?_ ?_ ?_; rotate_left; (focus intro w'; go_simp; with_reducible rfl); rotate_left; (focus simp only [pk]; rfl)
            refine pA 31 34 (bu 73 32) ?_ HT_ rfl rfl (.inl ⟨by rfl, ?_⟩) ?_ ?_ ?_; rotate_left; (focus intro w'; go_simp; with_reducible rfl); rotate_left; (focus simp only [pk]; rfl)
            refine tA 32 35 (bu 73 33) ?_ HT_ HW_ rfl rfl (.inl ⟨by rfl, ?_⟩) hHeld ?_ ?_ ?_; rotate_left; (focus rintro w' ⟨s0, s1, s2, s3, s4, s5, s6⟩; go_simp; with_reducible rfl); rotate_left; (focus simp only [pk]; rfl)
            refine pA 33 36 (bu 73 34) ?_ HT_ rfl rfl (.inl ⟨by rfl, ?_⟩) ?_ ?_ ?_; rotate_left; (focus intro w'; go_simp; with_reducible rfl); rotate_left; (focus simp only [pk]; rfl)
            refine pA 34 37 (bu 73 35) ?_ HT_ rfl rfl (.inl ⟨by rfl, ?_⟩) ?_ ?_ ?_; rotate_left; (focus intro w'; go_simp; with_reducible rfl); rotate_left; (focus simp only [pk]; rfl)
            refine pU 35 38 (bu 73 36) HT_ ?_ ?_ ?_; rotate_left; (focus simp only [pk]; rfl)
            refine pU 36 39 (bu 73 37) HT_ ?_ ?_ ?_; rotate_left; (focus simp only [pk]; rfl)
            refine pU 37 40 (bu 73 38) HT_ ?_ ?_ ?_; rotate_left; (focus simp only [pk]; rfl)
            refine pU 38 41 (bu 73 39) HT_ ?_ ?_ ?_; rotate_left; (focus simp only [pk]; rfl)
            refine pU 39 42 (bu 73 40) HT_ ?_ ?_ ?_; rotate_left; (focus simp only [pk]; rfl)
            refine pU 40 43 (bu 73 41) HT_ ?_ ?_ ?_; rotate_left; (focus simp only [pk]; rfl)
            refine pU 41 44 (bu 73 42) HT_ ?_ ?_ ?_; rotate_left; (focus simp only [pk]; rfl)
            refine pU 42 45 (bu 73 43) HT_ ?_ ?_ ?_; rotate_left; (focus simp only [pk]; rfl)
            refine pA 43 46 (bu 73 44) ?_ HT_ rfl rfl (.inl ⟨by rfl, ?_⟩) ?_ ?_ ?_; rotate_left; (focus intro w'; go_simp; with_reducible rfl); rotate_left; (focus simp only [pk]; rfl)
            refine pA 44 47 (bu 73 45) ?_ HT_ rfl rfl (.inl ⟨by rfl, ?_⟩) ?_ ?_ ?_; rotate_left; (focus intro w'; go_simp; with_reducible rfl); rotate_left; (focus simp only [pk]; rfl)
            refine pA 45 48 (bu 73 46) ?_ HT_ rfl rfl (.inl ⟨by rfl, ?_⟩) ?_ ?_ ?_; rotate_left; (focus intro w'; go_simp; with_reducible rfl); rotate_left; (focus simp only [pk]; rfl)
            refine pA 46 49 (bu 73 47) ?_ HT_ rfl rfl (.inl ⟨by rfl, ?_⟩) ?_ ?_ ?_; rotate_left; (focus intro w'; go_simp; with_reducible rfl); rotate_left; (focus simp only [pk]; rfl)
            refine tA 47 50 (bu 73 48) ?_ HT_ HW_ rfl rfl (.inl ⟨by rfl, ?_⟩) hHeld ?_ ?_ ?_; rotate_left; (focus rintro w' ⟨s0, s1, s2, s3, s4, s5, s6⟩; go_simp; with_reducible rfl); rotate_left; (focus simp only [pk]; rfl)
            refine pA 48 51 (bu 73 49) ?_ HT_ rfl rfl (.inl ⟨by rfl, ?_⟩) ?_ ?_ ?_; rotate_left; (focus intro w'; go_simp; with_reducible rfl); rotate_left; (focus simp only [pk]; rfl)
            refine pA 49 52 (bu 73 50) ?_ HT_ rfl rfl (.inl ⟨by rfl, ?_⟩) ?_ ?_ ?_; rotate_left; (focus intro w'; go_simp; with_reducible rfl); rotate_left; (focus simp only [pk]; rfl)
            refine pA 50 53 (bu 73 51) ?_ HT_ rfl rfl (.inl ⟨by rfl, ?_⟩) ?_ ?_ ?_; rotate_left; (focus intro w'; go_simp; with_reducible rfl); rotate_left; (focus simp only [pk]; rfl)
            refine pA 51 54 (bu 73 52) ?_ HT_ rfl rfl (.inl ⟨by rfl, ?_⟩) ?_ ?_ ?_; rotate_left; (focus intro w'; go_simp; with_reducible rfl); rotate_left; (focus simp only [pk]; rfl)
            refine pA 53 56 (bm 73 0x2fffffffffffff) ?_ HT_ rfl rfl (.inl ⟨by rfl, ?_⟩) ?_ ?_ ?_; rotate_left; (focus intro w'; go_simp; with_reducible rfl); rotate_left; (focus simp only [pk]; rfl)
            refine tA 52 55 (bu 73 54) ?_ HT_ HW_ rfl rfl (.inl ⟨by rfl, ?_⟩) hHeld ?_ ?_ ?_; rotate_left; (focus rintro w' ⟨s0, s1, s2, s3, s4, s5, s6⟩; go_simp; with_reducible rfl); rotate_left; (focus simp only [pk]; rfl)
            refine tA 54 57 (bu 73 55) ?_ HT_ HW_ rfl rfl (.inl ⟨by rfl, ?_⟩) hHeld ?_ ?_ ?_; rotate_left; (focus rintro w' ⟨s0, s1, s2, s3, s4, s5, s6⟩; go_simp; with_reducible rfl); rotate_left; (focus simp only [pk]; rfl)
            refine pA 55 58 (bu 73 56) ?_ HT_ rfl rfl (.inl ⟨by rfl, ?_⟩) ?_ ?_ ?_; rotate_left; (focus intro w'; go_simp; with_reducible rfl); rotate_left; (focus simp only [pk]; rfl)
            refine one_ (i := 56) (N := some 59) (bu 73 57) rfl rfl (one_of HT_.out (by kernel_rfl)) (by decide) (fun K hK => ?_)
            refine goes_ Try.func34 (by kernel_rfl) rfl #[.int .i64 (l0_1.length : Int)] (by rfl) rfl rfl (by (try simp only [List.map_toArray, List.map_cons, List.map_nil]); first | done | rfl | (simp only [List.length_drop, List.length_take]; rfl) | (go_simp; done) | (go_simp; rfl)) ?_
            with_reducible refine (sender_count.calls (l0_1.length : Int) t111 _ A24.out).mono ?_
            rintro e w' ⟨rfl, ⟨nd, rfl⟩⟩
            refine ⟨_, rfl, ?_⟩
            refine hK.out _ _ ⟨(blk_cell BK110.out 0).trans rfl, (blk_cell BK110.out 1).trans rfl, (blk_cell BK110.out 2).trans rfl, (blk_cell BK110.out 3).trans rfl, (blk_cell BK110.out 4).trans rfl, (blk_cell BK110.out 5).trans rfl, (blk_cell BK110.out 6).trans rfl⟩ (fun hHeld => ?_)
            clear hK K
            refine norm_ (a' := ?_) ?_ ?_
            rotate_left
            ·show Act.put _ (some 59) _ = _
             simp only [Act.put, List.setIfInBounds_toArray, List.set_cons_zero, List.set_cons_succ, i64_w, i32_w]
             rfl
            refine pA 57 60 (bu 73 58) ?_ HT_ rfl rfl (.inl ⟨by rfl, ?_⟩) ?_ ?_ ?_; rotate_left; (focus intro w'; go_simp; with_reducible rfl); rotate_left; (focus simp only [pk]; rfl)
            refine pA 58 61 (bu 73 59) ?_ HT_ rfl rfl (.inl ⟨by rfl, ?_⟩) ?_ ?_ ?_; rotate_left; (focus intro w'; go_simp; with_reducible rfl); rotate_left; (focus simp only [pk]; rfl)
            refine pA 59 62 (bu 73 60) ?_ HT_ rfl rfl (.inl ⟨by rfl, ?_⟩) ?_ ?_ ?_; rotate_left; (focus intro w'; go_simp; with_reducible rfl); rotate_left; (focus simp only [pk]; rfl)
            refine pA 60 63 (bu 73 61) ?_ HT_ rfl rfl (.inl ⟨by rfl, ?_⟩) ?_ ?_ ?_; rotate_left; (focus intro w'; go_simp; with_reducible rfl); rotate_left; (focus simp only [pk]; rfl)
            refine pA 62 65 (bm 73 0x5fffffffffffffff) ?_ HT_ rfl rfl (.inl ⟨by rfl, ?_⟩) ?_ ?_ ?_; rotate_left; (focus intro w'; go_simp; with_reducible rfl); rotate_left; (focus simp only [pk]; rfl)
            refine tA 61 64 (bu 73 63) ?_ HT_ HW_ rfl rfl (.inl ⟨by rfl, ?_⟩) hHeld ?_ ?_ ?_; rotate_left; (focus rintro w' ⟨s0, s1, s2, s3, s4, s5, s6⟩; go_simp; with_reducible rfl); rotate_left; (focus simp only [pk]; rfl)
            refine tA 63 66 (bu 73 64) ?_ HT_ HW_ rfl rfl (.inl ⟨by rfl, ?_⟩) hHeld ?_ ?_ ?_; rotate_left; (focus rintro w' ⟨s0, s1, s2, s3, s4, s5, s6⟩; go_simp; with_reducible rfl); rotate_left; (focus simp only [pk]; rfl)
            refine pA 64 67 (bu 73 65) ?_ HT_ rfl rfl (.inl ⟨by rfl, ?_⟩) ?_ ?_ ?_; rotate_left; (focus intro w'; go_simp; with_reducible rfl); rotate_left; (focus simp only [pk]; rfl)
            refine pA 65 68 (bu 73 66) ?_ HT_ rfl rfl (.inl ⟨by rfl, ?_⟩) ?_ ?_ ?_; rotate_left; (focus intro w'; go_simp; with_reducible rfl); rotate_left; (focus simp only [pk]; rfl)
            refine pA 66 69 (bu 73 67) ?_ HT_ rfl rfl (.inl ⟨by rfl, ?_⟩) ?_ ?_ ?_; rotate_left; (focus intro w'; go_simp; with_reducible rfl); rotate_left; (focus simp only [pk]; rfl)
            refine pA 67 70 (bu 73 68) ?_ HT_ rfl rfl (.inl ⟨by rfl, ?_⟩) ?_ ?_ ?_; rotate_left; (focus intro w'; go_simp; with_reducible rfl); rotate_left; (focus simp only [pk]; rfl)
            refine tA 68 71 (bu 73 69) ?_ HT_ HW_ rfl rfl (.inl ⟨by rfl, ?_⟩) hHeld ?_ ?_ ?_; rotate_left; (focus rintro w' ⟨s0, s1, s2, s3, s4, s5, s6⟩; go_simp; with_reducible rfl); rotate_left; (focus simp only [pk]; rfl)
            refine tA 69 72 (bu 73 70) ?_ HT_ HW_ rfl rfl (.inl ⟨by rfl, ?_⟩) hHeld ?_ ?_ ?_; rotate_left; (focus rintro w' ⟨s0, s1, s2, s3, s4, s5, s6⟩; go_simp; with_reducible rfl); rotate_left; (focus simp only [pk]; rfl)
            refine one_ (i := 70) (N := some 73) (bu 73 71) rfl rfl (one_of HT_.out (by kernel_rfl)) (by decide) (fun K hK => ?_)
            refine goes_ Try.func32 (by kernel_rfl) rfl #[.agg #[.int .i64 a0_0, .slice A0_1 l0_1.length c0_1, .bool true, .int .i64 a0_3, .int .i64 a0_4, .int .i64 a0_5, .bool a0_6]] (by rfl) rfl rfl (by (try simp only [List.map_toArray, List.map_cons, List.map_nil]); first | done | rfl | (simp only [List.length_drop, List.length_take]; rfl) | (go_simp; done) | (go_simp; rfl)) ?_
            with_reducible refine (sender_top.calls a0_0 _ _ l0_1 true a0_3 a0_4 a0_5 a0_6 t112 _ ?side1 ?side2 A31.out).mono ?_
            (case side1 => repeat (first | exact (Kd.C_below HR0_1.out (by repeat (first | (with_reducible first | exact HB.out | apply b1 | apply b2 | apply b3 | refine below_set ?_ GE110.out) | exact HB.out))) | (with_reducible refine Kd.C_alloc ?_ _) | (with_reducible refine Kd.C_drewN ?_ _) | (with_reducible refine Kd.C_drew ?_)))
            (case side2 => exact HC0_1.out)
            rintro e w35 ⟨rfl, hb⟩
            refine ⟨_, rfl, ?_⟩
            have n0_ := Aside0.mk (bK BK110.out hb)
            have n1_ := Aside0.mk (below_step (by repeat (first | (with_reducible first | exact HB.out | apply b1 | apply b2 | apply b3 | refine below_set ?_ GE110.out) | exact HB.out)) hb)
            clear BK110
            clear HB
            have BK110 := n0_
            have HB := n1_
            clear n0_ n1_
            (try clear hb)
            (try clear hb2)
            (try clear hk)
            (try clear hi)
            refine hK.out _ _ ⟨(blk_cell BK110.out 0).trans rfl, (blk_cell BK110.out 1).trans rfl, (blk_cell BK110.out 2).trans rfl, (blk_cell BK110.out 3).trans rfl, (blk_cell BK110.out 4).trans rfl, (blk_cell BK110.out 5).trans rfl, (blk_cell BK110.out 6).trans rfl⟩ (fun hHeld => ?_)
            clear hK K
            refine norm_ (a' := ?_) ?_ ?_
            rotate_left
            ·show Act.put _ (some 73) _ = _
             simp only [Act.put, List.setIfInBounds_toArray, List.set_cons_zero, List.set_cons_succ, i64_w, i32_w]
             rfl
            refine pA 71 74 (bu 73 72) ?_ HT_ rfl rfl (.inl ⟨by rfl, ?_⟩) ?_ ?_ ?_; rotate_left; (focus intro w'; go_simp; with_reducible rfl); rotate_left; (focus simp only [pk]; rfl)
            refine pA 72 75 (bu 73 73) ?_ HT_ rfl rfl (.inl ⟨by rfl, ?_⟩) ?_ ?_ ?_; rotate_left; (focus intro w'; go_simp; with_reducible rfl); rotate_left; (focus simp only [pk]; rfl)
            refine done_ (done_of HT_.out (by kernel_rfl)) ?_
            try go_wp2
            go_ret
            exact ⟨by first | rfl | (simp [errW_none, errW_some] <;> rfl) | (simp [*, errW_none, errW_some] <;> rfl), by repeat (first | (with_reducible first | exact HB.out | apply b1 | apply b2 | apply b3 | refine below_set ?_ GE110.out) | exact HB.out)⟩
           ·rw [if_neg c32] at H
            have c32b0 : decide (t112 < a0_4) = false := decide_eq_false c32
            clear c32
            obtain rfl := Option.some.inj H
            go_enter Try.func18, Try.ntmps18
            try go_wp2_with (first | ((with_reducible refine gate_dst (N := 1) rfl ?_); (try (refine gate_guard (by rfl) ?_; dsimp only)); refine box_event ?hg (N := 1) ?hd (cs := #[.int .i64 a0_0, .slice A0_1 l0_1.length c0_1, .bool true, .int .i64 a0_3, .int .i64 a0_4, .int .i64 a0_5, .bool a0_6]) (t := 24) ?hr ?_; (case hd => rfl); (case hg => rfl); (case hr => first | (go_simp; done) | (go_simp; rfl)); intro gb110 hg w36 hbox hb; have n0_ := Aside0.mk (below_step (by first | with_reducible exact HB.out | exact sB HB.out) hb); have n1_ := Aside0.mk (hbox); have n2_ := Aside0.mk ((by rw [hg]; exact (below_size (by first | with_reducible exact HB.out | exact sB HB.out)) : w.heap.size ≤ gb110)); have n3_ := Aside0.mk ((by rw [hg]; exact (below_size (by first | with_reducible exact HB.out | exact sB HB.out)) : w.heap.size ≤ gb110)); clear HB; have HB := n0_; have BK110 := n1_; have GW110 := n2_; have GE110 := n3_; clear n0_ n1_ n2_ n3_; clear hb hbox hg))
            have n0_ := Aside0.mk (blk_drew BK110.out)
            have n1_ := Aside0.mk (below_drew1 HB.out)
            clear BK110
            clear HB
            have BK110 := n0_
            have HB := n1_
            clear n0_ n1_
            refine start_ (n := 73) (S := fun w' => w'.cell? ⟨gb110, 0, none⟩ = some (.int .i64 a0_0) ∧ w'.cell? ⟨gb110, 1, none⟩ = some (.slice A0_1 l0_1.length c0_1) ∧ w'.cell? ⟨gb110, 2, none⟩ = some (.bool true) ∧ w'.cell? ⟨gb110, 3, none⟩ = some (.int .i64 a0_3) ∧ w'.cell? ⟨gb110, 4, none⟩ = some (.int .i64 a0_4) ∧ w'.cell? ⟨gb110, 5, none⟩ = some (.int .i64 a0_5) ∧ w'.cell? ⟨gb110, 6, none⟩ = some (.bool a0_6)) (ds := []) (bu 73 0) (by kernel_rfl) rfl rfl ⟨(blk_cell BK110.out 0).trans rfl, (blk_cell BK110.out 1).trans rfl, (blk_cell BK110.out 2).trans rfl, (blk_cell BK110.out 3).trans rfl, (blk_cell BK110.out 4).trans rfl, (blk_cell BK110.out 5).trans rfl, (blk_cell BK110.out 6).trans rfl⟩ (fun hHeld => ?_); refine with_tabW sender_Check.tab1 sender_Check.bits1 (fun HT_ HW_ => ?_)
            generalize w36.drew = w37 at BK110 HB hHeld ⊢
            refine pA 0 3 (bu 73 1) ?_ HT_ rfl rfl (.inl ⟨by rfl, ?_⟩) ?_ ?_ ?_; rotate_left; (focus intro w'; go_simp; with_reducible rfl); rotate_left; (focus simp only [pk]; rfl)
            refine tA 1 4 (bu 73 2) ?_ HT_ HW_ rfl rfl (.inl ⟨by rfl, ?_⟩) hHeld ?_ ?_ ?_; rotate_left; (focus rintro w' ⟨s0, s1, s2, s3, s4, s5, s6⟩; go_simp; with_reducible rfl); rotate_left; (focus simp only [pk]; rfl)
            refine pA 2 5 (bu 73 3) ?_ HT_ rfl rfl (.inl ⟨by rfl, ?_⟩) ?_ ?_ ?_; rotate_left; (focus intro w'; go_simp; with_reducible rfl); rotate_left; (focus simp only [pk]; rfl)
            refine pA 3 6 (bu 73 4) ?_ HT_ rfl rfl (.inl ⟨by rfl, ?_⟩) ?_ ?_ ?_; rotate_left; (focus intro w'; go_simp; with_reducible rfl); rotate_left; (focus simp only [pk]; rfl)
            refine pA 4 7 (bu 73 5) ?_ HT_ rfl rfl (.inl ⟨by rfl, ?_⟩) ?_ ?_ ?_; rotate_left; (focus intro w'; go_simp; with_reducible rfl); rotate_left; (focus simp only [pk]; rfl)
            refine tA 5 8 (bu 73 6) ?_ HT_ HW_ rfl rfl (.inl ⟨by rfl, ?_⟩) hHeld ?_ ?_ ?_; rotate_left; (focus rintro w' ⟨s0, s1, s2, s3, s4, s5, s6⟩; go_simp; with_reducible rfl); rotate_left; (focus simp only [pk]; rfl)
            refine pA 6 9 (bu 73 7) ?_ HT_ rfl rfl (.inl ⟨by rfl, ?_⟩) ?_ ?_ ?_; rotate_left; (focus intro w'; go_simp; with_reducible rfl); rotate_left; (focus simp only [pk]; rfl)
            refine pA 7 10 (bu 73 8) ?_ HT_ rfl rfl (.inl ⟨by rfl, ?_⟩) ?_ ?_ ?_; rotate_left; (focus intro w'; go_simp; with_reducible rfl); rotate_left; (focus simp only [pk]; rfl)
            refine pA 8 11 (bu 73 9) ?_ HT_ rfl rfl (.inl ⟨by rfl, ?_⟩) ?_ ?_ ?_; rotate_left; (focus intro w'; go_simp; with_reducible rfl); rotate_left; (focus simp only [pk]; rfl)
            refine pA 9 12 (bu 73 10) ?_ HT_ rfl rfl (.inl ⟨by rfl, ?_⟩) ?_ ?_ ?_; rotate_left; (focus intro w'; go_simp; with_reducible rfl); rotate_left; (focus simp only [pk]; rfl)
            refine tA 10 13 (bu 73 11) ?_ HT_ HW_ rfl rfl (.inl ⟨by rfl, ?_⟩) hHeld ?_ ?_ ?_; rotate_left; (focus rintro w' ⟨s0, s1, s2, s3, s4, s5, s6⟩; go_simp; with_reducible rfl); rotate_left; (focus simp only [pk]; rfl)
            refine pA 11 14 (bu 73 12) ?_ HT_ rfl rfl (.inl ⟨by rfl, ?_⟩) ?_ ?_ ?_; rotate_left; (focus intro w'; go_simp; with_reducible rfl); rotate_left; (focus simp only [pk]; rfl)
            refine pA 12 15 (bu 73 13) ?_ HT_ rfl rfl (.inl ⟨by rfl, ?_⟩) ?_ ?_ ?_; rotate_left; (focus intro w'; go_simp; with_reducible rfl); rotate_left; (focus simp only [pk]; rfl)
            refine pA 13 16 (bu 73 14) ?_ HT_ rfl rfl (.inl ⟨by rfl, ?_⟩) ?_ ?_ ?_; rotate_left; (focus intro w'; go_simp; with_reducible rfl); rotate_left; (focus simp only [pk]; rfl)
            refine pA 14 17 (bu 73 15) ?_ HT_ rfl rfl (.inl ⟨by rfl, ?_⟩) ?_ ?_ ?_; rotate_left; (focus intro w'; go_simp; with_reducible rfl); rotate_left; (focus simp only [pk]; rfl)
            refine pA 15 18 (bu 73 16) ?_ HT_ rfl rfl (.inl ⟨by rfl, ?_⟩) ?_ ?_ ?_; rotate_left; (focus intro w'; go_simp; with_reducible rfl); rotate_left; (focus simp only [pk]; rfl)
            refine tA 16 19 (bu 73 17) ?_ HT_ HW_ rfl rfl (.inl ⟨by rfl, ?_⟩) hHeld ?_ ?_ ?_; rotate_left; (focus rintro w' ⟨s0, s1, s2, s3, s4, s5, s6⟩; go_simp; with_reducible rfl); rotate_left; (focus simp only [pk]; rfl)
            refine pA 17 20 (bu 73 18) ?_ HT_ rfl rfl (.inl ⟨by rfl, ?_⟩) ?_ ?_ ?_; rotate_left; (focus intro w'; go_simp; with_reducible rfl); rotate_left; (focus simp only [pk]; rfl)
            refine pA 18 21 (bu 73 19) ?_ HT_ rfl rfl (.inl ⟨by rfl, ?_⟩) ?_ ?_ ?_; rotate_left; (focus intro w'; go_simp; with_reducible rfl); rotate_left; (focus simp only [pk]; rfl)
            refine pA 19 22 (bu 73 20) ?_ HT_ rfl rfl (.inl ⟨by rfl, ?_⟩) ?_ ?_ ?_; rotate_left; (focus intro w'; go_simp; with_reducible rfl); rotate_left; (focus simp only [pk]; rfl)
            refine pA 20 23 (bu 73 21) ?_ HT_ rfl rfl (.inl ⟨by rfl, ?_⟩) ?_ ?_ ?_; rotate_left; (focus intro w'; go_simp; with_reducible rfl); rotate_left; (focus simp only [pk]; rfl)
            refine pA 21 24 (bu 73 22) ?_ HT_ rfl rfl (.inl ⟨by rfl, ?_⟩) ?_ ?_ ?_; rotate_left; (focus intro w'; go_simp; with_reducible rfl); rotate_left; (focus simp only [pk]; rfl)
            refine tA 22 25 (bu 73 23) ?_ HT_ HW_ rfl rfl (.inl ⟨by rfl, ?_⟩) hHeld ?_ ?_ ?_; rotate_left; (focus rintro w' ⟨s0, s1, s2, s3, s4, s5, s6⟩; go_simp; with_reducible rfl); rotate_left; (focus simp only [pk]; rfl)
            refine pA 23 26 (bu 73 24) ?_ HT_ rfl rfl (.inl ⟨by rfl, ?_⟩) ?_ ?_ ?_; rotate_left; (focus intro w'; go_simp; with_reducible rfl); rotate_left; (focus simp only [pk]; rfl)
            refine pA 24 27 (bu 73 25) ?_ HT_ rfl rfl (.inl ⟨by rfl, ?_⟩) ?_ ?_ ?_; rotate_left; (focus intro w'; go_simp; with_reducible rfl); rotate_left; (focus simp only [pk]; rfl)
            refine pA 25 28 (bu 73 26) ?_ HT_ rfl rfl (.inl ⟨by rfl, ?_⟩) ?_ ?_ ?_; rotate_left; (focus intro w'; go_simp; with_reducible rfl); rotate_left; (focus simp only [pk]; rfl)
            refine pA 26 29 (bu 73 27) ?_ HT_ rfl rfl (.inl ⟨by rfl, ?_⟩) ?_ ?_ ?_; rotate_left; (focus intro w'; go_simp; with_reducible rfl); rotate_left; (focus simp only [pk]; rfl)
            refine tA 27 30 (bu 73 28) ?_ HT_ HW_ rfl rfl (.inl ⟨by rfl, ?_⟩) hHeld ?_ ?_ ?_; rotate_left; (focus rintro w' ⟨s0, s1, s2, s3, s4, s5, s6⟩; go_simp; with_reducible rfl); rotate_left; (focus simp only [pk]; rfl)
            refine pA 28 31 (bu 73 29) ?_ HT_ rfl rfl (.inl ⟨by rfl, ?_⟩) ?_ ?_ ?_; rotate_left; (focus intro w'; go_simp; with_reducible rfl); rotate_left; (focus simp only [pk]; rfl)
            refine pA 29 32 (bu 73 30) ?_ HT_ rfl rfl (.inl ⟨by rfl, ?_⟩) ?_ ?_ ?_; rotate_left; (focus intro w'; go_simp; with_reducible rfl); rotate_left; (focus simp only [pk]; rfl)
            refine pA 30 33 (bu 73 31) ?_ HT_ rfl rfl (.inl ⟨by rfl, ?_⟩) ?_ ?_ ?_; rotate_left; (focus intro w'; go_simp; with_reducible rfl); rotate_left; (focus simp only [pk]; rfl)
            refine pA 31 34 (bu 73 32) ?_ HT_ rfl rfl (.inl ⟨by rfl, ?_⟩) ?_ ?_ ?_; rotate_left; (focus intro w'; go_simp; with_reducible rfl); rotate_left; (focus simp only [pk]; rfl)
            refine tA 32 35 (bu 73 33) ?_ HT_ HW_ rfl rfl (.inl ⟨by rfl, ?_⟩) hHeld ?_ ?_ ?_; rotate_left; (focus rintro w' ⟨s0, s1, s2, s3, s4, s5, s6⟩; go_simp; with_reducible rfl); rotate_left; (focus simp only [pk]; rfl)
            refine pA 33 36 (bu 73 34) ?_ HT_ rfl rfl (.inl ⟨by rfl, ?_⟩) ?_ ?_ ?_; rotate_left; (focus intro w'; go_simp; with_reducible rfl); rotate_left; (focus simp only [pk]; rfl)
            refine pA 34 37 (bu 73 35) ?_ HT_ rfl rfl (.inl ⟨by rfl, ?_⟩) ?_ ?_ ?_; rotate_left; (focus intro w'; go_simp; with_reducible rfl); rotate_left; (focus simp only [pk]; rfl)
            refine pU 35 38 (bu 73 36) HT_ ?_ ?_ ?_; rotate_left; (focus simp only [pk]; rfl)
            refine pU 36 39 (bu 73 37) HT_ ?_ ?_ ?_; rotate_left; (focus simp only [pk]; rfl)
            refine pU 37 40 (bu 73 38) HT_ ?_ ?_ ?_; rotate_left; (focus simp only [pk]; rfl)
            refine pU 38 41 (bu 73 39) HT_ ?_ ?_ ?_; rotate_left; (focus simp only [pk]; rfl)
            refine pU 39 42 (bu 73 40) HT_ ?_ ?_ ?_; rotate_left; (focus simp only [pk]; rfl)
            refine pU 40 43 (bu 73 41) HT_ ?_ ?_ ?_; rotate_left; (focus simp only [pk]; rfl)
            refine pU 41 44 (bu 73 42) HT_ ?_ ?_ ?_; rotate_left; (focus simp only [pk]; rfl)
            refine pU 42 45 (bu 73 43) HT_ ?_ ?_ ?_; rotate_left; (focus simp only [pk]; rfl)
            refine pA 43 46 (bu 73 44) ?_ HT_ rfl rfl (.inl ⟨by rfl, ?_⟩) ?_ ?_ ?_; rotate_left; (focus intro w'; go_simp; with_reducible rfl); rotate_left; (focus simp only [pk]; rfl)
            refine pA 44 47 (bu 73 45) ?_ HT_ rfl rfl (.inl ⟨by rfl, ?_⟩) ?_ ?_ ?_; rotate_left; (focus intro w'; go_simp; with_reducible rfl); rotate_left; (focus simp only [pk]; rfl)
            refine pA 45 48 (bu 73 46) ?_ HT_ rfl rfl (.inl ⟨by rfl, ?_⟩) ?_ ?_ ?_; rotate_left; (focus intro w'; go_simp; with_reducible rfl); rotate_left; (focus simp only [pk]; rfl)
            refine pA 46 49 (bu 73 47) ?_ HT_ rfl rfl (.inl ⟨by rfl, ?_⟩) ?_ ?_ ?_; rotate_left; (focus intro w'; go_simp; with_reducible rfl); rotate_left; (focus simp only [pk]; rfl)
            refine tA 47 50 (bu 73 48) ?_ HT_ HW_ rfl rfl (.inl ⟨by rfl, ?_⟩) hHeld ?_ ?_ ?_; rotate_left; (focus rintro w' ⟨s0, s1, s2, s3, s4, s5, s6⟩; go_simp; with_reducible rfl); rotate_left; (focus simp only [pk]; rfl)
            refine pA 48 51 (bu 73 49) ?_ HT_ rfl rfl (.inl ⟨by rfl, ?_⟩) ?_ ?_ ?_; rotate_left; (focus intro w'; go_simp; with_reducible rfl); rotate_left; (focus simp only [pk]; rfl)
            refine pA 49 52 (bu 73 50) ?_ HT_ rfl rfl (.inl ⟨by rfl, ?_⟩) ?_ ?_ ?_; rotate_left; (focus intro w'; go_simp; with_reducible rfl); rotate_left; (focus simp only [pk]; rfl)
            refine pA 50 53 (bu 73 51) ?_ HT_ rfl rfl (.inl ⟨by rfl, ?_⟩) ?_ ?_ ?_; rotate_left; (focus intro w'; go_simp; with_reducible rfl); rotate_left; (focus simp only [pk]; rfl)
            refine pA 51 54 (bu 73 52) ?_ HT_ rfl rfl (.inl ⟨by rfl, ?_⟩) ?_ ?_ ?_; rotate_left; (focus intro w'; go_simp; with_reducible rfl); rotate_left; (focus simp only [pk]; rfl)
            refine pA 53 56 (bm 73 0x2fffffffffffff) ?_ HT_ rfl rfl (.inl ⟨by rfl, ?_⟩) ?_ ?_ ?_; rotate_left; (focus intro w'; go_simp; with_reducible rfl); rotate_left; (focus simp only [pk]; rfl)
            refine tA 52 55 (bu 73 54) ?_ HT_ HW_ rfl rfl (.inl ⟨by rfl, ?_⟩) hHeld ?_ ?_ ?_; rotate_left; (focus rintro w' ⟨s0, s1, s2, s3, s4, s5, s6⟩; go_simp; with_reducible rfl); rotate_left; (focus simp only [pk]; rfl)
            refine tA 54 57 (bu 73 55) ?_ HT_ HW_ rfl rfl (.inl ⟨by rfl, ?_⟩) hHeld ?_ ?_ ?_; rotate_left; (focus rintro w' ⟨s0, s1, s2, s3, s4, s5, s6⟩; go_simp; with_reducible rfl); rotate_left; (focus simp only [pk]; rfl)
            refine pA 55 58 (bu 73 56) ?_ HT_ rfl rfl (.inl ⟨by rfl, ?_⟩) ?_ ?_ ?_; rotate_left; (focus intro w'; go_simp; with_reducible rfl); rotate_left; (focus simp only [pk]; rfl)
            refine one_ (i := 56) (N := some 59) (bu 73 57) rfl rfl (one_of HT_.out (by kernel_rfl)) (by decide) (fun K hK => ?_)
            refine goes_ Try.func34 (by kernel_rfl) rfl #[.int .i64 (l0_1.length : Int)] (by rfl) rfl rfl (by (try simp only [List.map_toArray, List.map_cons, List.map_nil]); first | done | rfl | (simp only [List.length_drop, List.length_take]; rfl) | (go_simp; done) | (go_simp; rfl)) ?_
            with_reducible refine (sender_count.calls (l0_1.length : Int) t111 _ A24.out).mono ?_
            rintro e w' ⟨rfl, ⟨nd, rfl⟩⟩
            refine ⟨_, rfl, ?_⟩
            refine hK.out _ _ ⟨(blk_cell BK110.out 0).trans rfl, (blk_cell BK110.out 1).trans rfl, (blk_cell BK110.out 2).trans rfl, (blk_cell BK110.out 3).trans rfl, (blk_cell BK110.out 4).trans rfl, (blk_cell BK110.out 5).trans rfl, (blk_cell BK110.out 6).trans rfl⟩ (fun hHeld => ?_)
            clear hK K
            refine norm_ (a' := ?_) ?_ ?_
            rotate_left
            ·show Act.put _ (some 59) _ = _
             simp only [Act.put, List.setIfInBounds_toArray, List.set_cons_zero, List.set_cons_succ, i64_w, i32_w]
             rfl
            refine pA 57 60 (bu 73 58) ?_ HT_ rfl rfl (.inl ⟨by rfl, ?_⟩) ?_ ?_ ?_; rotate_left; (focus intro w'; go_simp; with_reducible rfl); rotate_left; (focus simp only [pk]; rfl)
            refine pA 58 61 (bu 73 59) ?_ HT_ rfl rfl (.inl ⟨by rfl, ?_⟩) ?_ ?_ ?_; rotate_left; (focus intro w'; go_simp; with_reducible rfl); rotate_left; (focus simp only [pk]; rfl)
            refine pA 59 62 (bu 73 60) ?_ HT_ rfl rfl (.inl ⟨by rfl, ?_⟩) ?_ ?_ ?_; rotate_left; (focus intro w'; go_simp; with_reducible rfl); rotate_left; (focus simp only [pk]; rfl)
            refine pA 60 63 (bu 73 61) ?_ HT_ rfl rfl (.inl ⟨by rfl, ?_⟩) ?_ ?_ ?_; rotate_left; (focus intro w'; go_simp; with_reducible rfl); rotate_left; (focus simp only [pk]; rfl)
            refine pA 62 65 (bm 73 0x5fffffffffffffff) ?_ HT_ rfl rfl (.inl ⟨by rfl, ?_⟩) ?_ ?_ ?_; rotate_left; (focus intro w'; go_simp; with_reducible rfl); rotate_left; (focus simp only [pk]; rfl)
            refine tA 61 64 (bu 73 63) ?_ HT_ HW_ rfl rfl (.inl ⟨by rfl, ?_⟩) hHeld ?_ ?_ ?_; rotate_left; (focus rintro w' ⟨s0, s1, s2, s3, s4, s5, s6⟩; go_simp; with_reducible rfl); rotate_left; (focus simp only [pk]; rfl)
            refine tA 63 66 (bu 73 64) ?_ HT_ HW_ rfl rfl (.inl ⟨by rfl, ?_⟩) hHeld ?_ ?_ ?_; rotate_left; (focus rintro w' ⟨s0, s1, s2, s3, s4, s5, s6⟩; go_simp; with_reducible rfl); rotate_left; (focus simp only [pk]; rfl)
            refine pA 64 67 (bu 73 65) ?_ HT_ rfl rfl (.inl ⟨by rfl, ?_⟩) ?_ ?_ ?_; rotate_left; (focus intro w'; go_simp; with_reducible rfl); rotate_left; (focus simp only [pk]; rfl)
            refine pA 65 68 (bu 73 66) ?_ HT_ rfl rfl (.inl ⟨by rfl, ?_⟩) ?_ ?_ ?_; rotate_left; (focus intro w'; go_simp; with_reducible rfl); rotate_left; (focus simp only [pk]; rfl)
            refine pA 66 69 (bu 73 67) ?_ HT_ rfl rfl (.inl ⟨by rfl, ?_⟩) ?_ ?_ ?_; rotate_left; (focus intro w'; go_simp; with_reducible rfl); rotate_left; (focus simp only [pk]; rfl)
            refine pA 67 70 (bu 73 68) ?_ HT_ rfl rfl (.inl ⟨by rfl, ?_⟩) ?_ ?_ ?_; rotate_left; (focus intro w'; go_simp; with_reducible rfl); rotate_left; (focus simp only [pk]; rfl)
            refine tA 68 71 (bu 73 69) ?_ HT_ HW_ rfl rfl (.inl ⟨by rfl, ?_⟩) hHeld ?_ ?_ ?_; rotate_left; (focus rintro w' ⟨s0, s1, s2, s3, s4, s5, s6⟩; go_simp; with_reducible rfl); rotate_left; (focus simp only [pk]; rfl)
            refine tA 69 72 (bu 73 70) ?_ HT_ HW_ rfl rfl (.inl ⟨by rfl, ?_⟩) hHeld ?_ ?_ ?_; rotate_left; (focus rintro w' ⟨s0, s1, s2, s3, s4, s5, s6⟩; go_simp; with_reducible rfl); rotate_left; (focus simp only [pk]; rfl)
            refine one_ (i := 70) (N := some 73) (bu 73 71) rfl rfl (one_of HT_.out (by kernel_rfl)) (by decide) (fun K hK => ?_)
            refine goes_ Try.func32 (by kernel_rfl) rfl #[.agg #[.int .i64 a0_0, .slice A0_1 l0_1.length c0_1, .bool true, .int .i64 a0_3, .int .i64 a0_4, .int .i64 a0_5, .bool a0_6]] (by rfl) rfl rfl (by (try simp only [List.map_toArray, List.map_cons, List.map_nil]); first | done | rfl | (simp only [List.length_drop, List.length_take]; rfl) | (go_simp; done) | (go_simp; rfl)) ?_
            with_reducible refine (sender_top.calls a0_0 _ _ l0_1 true a0_3 a0_4 a0_5 a0_6 t112 _ ?side1 ?side2 A31.out).mono ?_
            (case side1 => repeat (first | exact (Kd.C_below HR0_1.out (by repeat (first | (with_reducible first | exact HB.out | apply b1 | apply b2 | apply b3 | refine below_set ?_ GE110.out) | exact HB.out))) | (with_reducible refine Kd.C_alloc ?_ _) | (with_reducible refine Kd.C_drewN ?_ _) | (with_reducible refine Kd.C_drew ?_)))
            (case side2 => exact HC0_1.out)
            rintro e w38 ⟨rfl, hb⟩
            refine ⟨_, rfl, ?_⟩
            have n0_ := Aside0.mk (bK BK110.out hb)
            have n1_ := Aside0.mk (below_step (by repeat (first | (with_reducible first | exact HB.out | apply b1 | apply b2 | apply b3 | refine below_set ?_ GE110.out) | exact HB.out)) hb)
            clear BK110
            clear HB
            have BK110 := n0_
            have HB := n1_
            clear n0_ n1_
            (try clear hb)
            (try clear hb2)
            (try clear hk)
            (try clear hi)
            refine hK.out _ _ ⟨(blk_cell BK110.out 0).trans rfl, (blk_cell BK110.out 1).trans rfl, (blk_cell BK110.out 2).trans rfl, (blk_cell BK110.out 3).trans rfl, (blk_cell BK110.out 4).trans rfl, (blk_cell BK110.out 5).trans rfl, (blk_cell BK110.out 6).trans rfl⟩ (fun hHeld => ?_)
            clear hK K
            refine norm_ (a' := ?_) ?_ ?_
            rotate_left
            ·show Act.put _ (some 73) _ = _
             simp only [Act.put, List.setIfInBounds_toArray, List.set_cons_zero, List.set_cons_succ, i64_w, i32_w]
             rfl
            refine pA 71 74 (bu 73 72) ?_ HT_ rfl rfl (.inl ⟨by rfl, ?_⟩) ?_ ?_ ?_; rotate_left; (focus intro w'; go_simp; with_reducible rfl); rotate_left; (focus simp only [pk]; rfl)
            refine pA 72 75 (bu 73 73) ?_ HT_ rfl rfl (.inl ⟨by rfl, ?_⟩) ?_ ?_ ?_; rotate_left; (focus intro w'; go_simp; with_reducible rfl); rotate_left; (focus simp only [pk]; rfl)
            refine done_ (done_of HT_.out (by kernel_rfl)) ?_
            try go_wp2
            go_ret
            exact ⟨by first | rfl | (simp [errW_none, errW_some] <;> rfl) | (simp [*, errW_none, errW_some] <;> rfl), by repeat (first | (with_reducible first | exact HB.out | apply b1 | apply b2 | apply b3 | refine below_set ?_ GE110.out) | exact HB.out)⟩
       ·replace c20 := Bool.eq_false_iff.mpr c20
        subst c20
        have H1 : (if a0_3 = 0 then (if a0_4 = 0 then (if a0_3 < 0 then (some 1) else ((sender_count.f (l0_1.length : Int)).bind fun t113 => (if a0_3 > t113 then (some 1) else (if a0_4 < a0_3 then (some 1) else ((sender_top.f a0_0 l0_1 false a0_3 a0_4 a0_5 a0_6).bind fun t114 => (if a0_4 > t114 then (some 1) else (some 0))))))) else (some 1)) else (some 1)) = some r := by rw [if_neg (show ¬ (false = true) by decide)] at H; exact H
        clear H
        have H := H1
        clear H1
        by_cases c39 : a0_3 = 0
        ·rw [if_pos c39] at H
         have c39b0 : (a0_3 == 0) = true := beq_iff_eq.mpr c39
         have c39b1 : (a0_3 != 0) = false := bne_eq_false_iff_eq.mpr c39
         clear c39
         by_cases c40 : a0_4 = 0
         ·rw [if_pos c40] at H
          have c40b0 : (a0_4 == 0) = true := beq_iff_eq.mpr c40
          have c40b1 : (a0_4 != 0) = false := bne_eq_false_iff_eq.mpr c40
          clear c40
          by_cases c41 : a0_3 < 0
          ·rw [if_pos c41] at H
           have c41b0 : decide (a0_3 < 0) = true := decide_eq_true c41
           clear c41
           obtain rfl := Option.some.inj H
           go_enter Try.func18, Try.ntmps18
           try go_wp2_with (first | ((with_reducible refine gate_dst (N := 1) rfl ?_); (try (refine gate_guard (by rfl) ?_; dsimp only)); refine box_event ?hg (N := 1) ?hd (cs := #[.int .i64 a0_0, .slice A0_1 l0_1.length c0_1, .bool false, .int .i64 a0_3, .int .i64 a0_4, .int .i64 a0_5, .bool a0_6]) (t := 24) ?hr ?_; (case hd => rfl); (case hg => rfl); (case hr => first | (go_simp; done) | (go_simp; rfl)); intro gb110 hg w42 hbox hb; have n0_ := Aside0.mk (below_step (by first | with_reducible exact HB.out | exact sB HB.out) hb); have n1_ := Aside0.mk (hbox); have n2_ := Aside0.mk ((by rw [hg]; exact (below_size (by first | with_reducible exact HB.out | exact sB HB.out)) : w.heap.size ≤ gb110)); have n3_ := Aside0.mk ((by rw [hg]; exact (below_size (by first | with_reducible exact HB.out | exact sB HB.out)) : w.heap.size ≤ gb110)); clear HB; have HB := n0_; have BK110 := n1_; have GW110 := n2_; have GE110 := n3_; clear n0_ n1_ n2_ n3_; clear hb hbox hg))
           have n0_ := Aside0.mk (blk_drew BK110.out)
           have n1_ := Aside0.mk (below_drew1 HB.out)
           clear BK110
           clear HB
           have BK110 := n0_
           have HB := n1_
           clear n0_ n1_
           refine start_ (n := 73) (S := fun w' => w'.cell? ⟨gb110, 0, none⟩ = some (.int .i64 a0_0) ∧ w'.cell? ⟨gb110, 1, none⟩ = some (.slice A0_1 l0_1.length c0_1) ∧ w'.cell? ⟨gb110, 2, none⟩ = some (.bool false) ∧ w'.cell? ⟨gb110, 3, none⟩ = some (.int .i64 a0_3) ∧ w'.cell? ⟨gb110, 4, none⟩ = some (.int .i64 a0_4) ∧ w'.cell? ⟨gb110, 5, none⟩ = some (.int .i64 a0_5) ∧ w'.cell? ⟨gb110, 6, none⟩ = some (.bool a0_6)) (ds := []) (bu 73 0) (by kernel_rfl) rfl rfl ⟨(blk_cell BK110.out 0).trans rfl, (blk_cell BK110.out 1).trans rfl, (blk_cell BK110.out 2).trans rfl, (blk_cell BK110.out 3).trans rfl, (blk_cell BK110.out 4).trans rfl, (blk_cell BK110.out 5).trans rfl, (blk_cell BK110.out 6).trans rfl⟩ (fun hHeld => ?_); refine with_tabW sender_Check.tab1 sender_Check.bits1 (fun HT_ HW_ => ?_)
           generalize w42.drew = w43 at BK110 HB hHeld ⊢
           refine pA 0 3 (bu 73 1) ?_ HT_ rfl rfl (.inl ⟨by rfl, ?_⟩) ?_ ?_ ?_; rotate_left; (focus intro w'; go_simp; with_reducible rfl); rotate_left; (focus simp only [pk]; rfl)
           refine tA 1 4 (bu 73 2) ?_ HT_ HW_ rfl rfl (.inl ⟨by rfl, ?_⟩) hHeld ?_ ?_ ?_; rotate_left; (focus rintro w' ⟨s0, s1, s2, s3, s4, s5, s6⟩; go_simp; with_reducible rfl); rotate_left; (focus simp only [pk]; rfl)
           refine pA 2 5 (bu 73 3) ?_ HT_ rfl rfl (.inl ⟨by rfl, ?_⟩) ?_ ?_ ?_; rotate_left; (focus intro w'; go_simp; with_reducible rfl); rotate_left; (focus simp only [pk]; rfl)
           refine pA 3 6 (bu 73 4) ?_ HT_ rfl rfl (.inl ⟨by rfl, ?_⟩) ?_ ?_ ?_; rotate_left; (focus intro w'; go_simp; with_reducible rfl); rotate_left; (focus simp only [pk]; rfl)
           refine pA 4 7 (bu 73 5) ?_ HT_ rfl rfl (.inl ⟨by rfl, ?_⟩) ?_ ?_ ?_; rotate_left; (focus intro w'; go_simp; with_reducible rfl); rotate_left; (focus simp only [pk]; rfl)
           refine tA 5 8 (bu 73 6) ?_ HT_ HW_ rfl rfl (.inl ⟨by rfl, ?_⟩) hHeld ?_ ?_ ?_; rotate_left; (focus rintro w' ⟨s0, s1, s2, s3, s4, s5, s6⟩; go_simp; with_reducible rfl); rotate_left; (focus simp only [pk]; rfl)
           refine pA 6 9 (bu 73 7) ?_ HT_ rfl rfl (.inl ⟨by rfl, ?_⟩) ?_ ?_ ?_; rotate_left; (focus intro w'; go_simp; with_reducible rfl); rotate_left; (focus simp only [pk]; rfl)
           refine pA 7 10 (bu 73 8) ?_ HT_ rfl rfl (.inl ⟨by rfl, ?_⟩) ?_ ?_ ?_; rotate_left; (focus intro w'; go_simp; with_reducible rfl); rotate_left; (focus simp only [pk]; rfl)
           refine pA 8 11 (bu 73 9) ?_ HT_ rfl rfl (.inl ⟨by rfl, ?_⟩) ?_ ?_ ?_; rotate_left; (focus intro w'; go_simp; with_reducible rfl); rotate_left; (focus simp only [pk]; rfl)
           refine pA 9 12 (bu 73 10) ?_ HT_ rfl rfl (.inl ⟨by rfl, ?_⟩) ?_ ?_ ?_; rotate_left; (focus intro w'; go_simp; with_reducible rfl); rotate_left; (focus simp only [pk]; rfl)
           refine tA 10 13 (bu 73 11) ?_ HT_ HW_ rfl rfl (.inl ⟨by rfl, ?_⟩) hHeld ?_ ?_ ?_; rotate_left; (focus rintro w' ⟨s0, s1, s2, s3, s4, s5, s6⟩; go_simp; with_reducible rfl); rotate_left; (focus simp only [pk]; rfl)
           refine pA 11 14 (bu 73 12) ?_ HT_ rfl rfl (.inl ⟨by rfl, ?_⟩) ?_ ?_ ?_; rotate_left; (focus intro w'; go_simp; with_reducible rfl); rotate_left; (focus simp only [pk]; rfl)
           refine pA 12 15 (bu 73 13) ?_ HT_ rfl rfl (.inl ⟨by rfl, ?_⟩) ?_ ?_ ?_; rotate_left; (focus intro w'; go_simp; with_reducible rfl); rotate_left; (focus simp only [pk]; rfl)
           refine pA 13 16 (bu 73 14) ?_ HT_ rfl rfl (.inl ⟨by rfl, ?_⟩) ?_ ?_ ?_; rotate_left; (focus intro w'; go_simp; with_reducible rfl); rotate_left; (focus simp only [pk]; rfl)
           refine pA 14 17 (bu 73 15) ?_ HT_ rfl rfl (.inl ⟨by rfl, ?_⟩) ?_ ?_ ?_; rotate_left; (focus intro w'; go_simp; with_reducible rfl); rotate_left; (focus simp only [pk]; rfl)
           refine pA 15 18 (bu 73 16) ?_ HT_ rfl rfl (.inl ⟨by rfl, ?_⟩) ?_ ?_ ?_; rotate_left; (focus intro w'; go_simp; with_reducible rfl); rotate_left; (focus simp only [pk]; rfl)
           refine tA 16 19 (bu 73 17) ?_ HT_ HW_ rfl rfl (.inl ⟨by rfl, ?_⟩) hHeld ?_ ?_ ?_; rotate_left; (focus rintro w' ⟨s0, s1, s2, s3, s4, s5, s6⟩; go_simp; with_reducible rfl); rotate_left; (focus simp only [pk]; rfl)
           refine pA 17 20 (bu 73 18) ?_ HT_ rfl rfl (.inl ⟨by rfl, ?_⟩) ?_ ?_ ?_; rotate_left; (focus intro w'; go_simp; with_reducible rfl); rotate_left; (focus simp only [pk]; rfl)
           refine pA 18 21 (bu 73 19) ?_ HT_ rfl rfl (.inl ⟨by rfl, ?_⟩) ?_ ?_ ?_; rotate_left; (focus intro w'; go_simp; with_reducible rfl); rotate_left; (focus simp only [pk]; rfl)
           refine pA 19 22 (bu 73 20) ?_ HT_ rfl rfl (.inl ⟨by rfl, ?_⟩) ?_ ?_ ?_; rotate_left; (focus intro w'; go_simp; with_reducible rfl); rotate_left; (focus simp only [pk]; rfl)
           refine pA 20 23 (bu 73 21) ?_ HT_ rfl rfl (.inl ⟨by rfl, ?_⟩) ?_ ?_ ?_; rotate_left; (focus intro w'; go_simp; with_reducible rfl); rotate_left; (focus simp only [pk]; rfl)
           refine pA 21 24 (bu 73 22) ?_ HT_ rfl rfl (.inl ⟨by rfl, ?_⟩) ?_ ?_ ?_; rotate_left; (focus intro w'; go_simp; with_reducible rfl); rotate_left; (focus simp only [pk]; rfl)
           refine tA 22 25 (bu 73 23) ?_ HT_ HW_ rfl rfl (.inl ⟨by rfl, ?_⟩) hHeld ?_ ?_ ?_; rotate_left; (focus rintro w' ⟨s0, s1, s2, s3, s4, s5, s6⟩; go_simp; with_reducible rfl); rotate_left; (focus simp only [pk]; rfl)
           refine pA 23 26 (bu 73 24) ?_ HT_ rfl rfl (.inl ⟨by rfl, ?_⟩) ?_ ?_ ?_; rotate_left; (focus intro w'; go_simp; with_reducible rfl); rotate_left; (focus simp only [pk]; rfl)
           refine pA 24 27 (bu 73 25) ?_ HT_ rfl rfl (.inl ⟨by rfl, ?_⟩) ?_ ?_ ?_; rotate_left; (focus intro w'; go_simp; with_reducible rfl); rotate_left; (focus simp only [pk]; rfl)
           refine pA 25 28 (bu 73 26) ?_ HT_ rfl rfl (.inl ⟨by rfl, ?_⟩) ?_ ?_ ?_; rotate_left; (focus intro w'; go_simp; with_reducible rfl); rotate_left; (focus simp only [pk]; rfl)
           refine pA 26 29 (bu 73 27) ?_ HT_ rfl rfl (.inl ⟨by rfl, ?_⟩) ?_ ?_ ?_; rotate_left; (focus intro w'; go_simp; with_reducible rfl); rotate_left; (focus simp only [pk]; rfl)
           refine tA 27 30 (bu 73 28) ?_ HT_ HW_ rfl rfl (.inl ⟨by rfl, ?_⟩) hHeld ?_ ?_ ?_; rotate_left; (focus rintro w' ⟨s0, s1, s2, s3, s4, s5, s6⟩; go_simp; with_reducible rfl); rotate_left; (focus simp only [pk]; rfl)
           refine pA 28 31 (bu 73 29) ?_ HT_ rfl rfl (.inl ⟨by rfl, ?_⟩) ?_ ?_ ?_; rotate_left; (focus intro w'; go_simp; with_reducible rfl); rotate_left; (focus simp only [pk]; rfl)
           refine pA 29 32 (bu 73 30) ?_ HT_ rfl rfl (.inl ⟨by rfl, ?_⟩) ?_ ?_ ?_; rotate_left; (focus intro w'; go_simp; with_reducible rfl); rotate_left; (focus simp only [pk]; rfl)
           refine pA 30 33 (bu 73 31) ?_ HT_ rfl rfl (.inl ⟨by rfl, ?_⟩) ?_ ?_ ?_; rotate_left; (focus intro w'; go_simp; with_reducible rfl); rotate_left; (focus simp only [pk]; rfl)
           refine pA 31 34 (bu 73 32) ?_ HT_ rfl rfl (.inl ⟨by rfl, ?_⟩) ?_ ?_ ?_; rotate_left; (focus intro w'; go_simp; with_reducible rfl); rotate_left; (focus simp only [pk]; rfl)
           refine tA 32 35 (bu 73 33) ?_ HT_ HW_ rfl rfl (.inl ⟨by rfl, ?_⟩) hHeld ?_ ?_ ?_; rotate_left; (focus rintro w' ⟨s0, s1, s2, s3, s4, s5, s6⟩; go_simp; with_reducible rfl); rotate_left; (focus simp only [pk]; rfl)
           refine pA 33 36 (bu 73 34) ?_ HT_ rfl rfl (.inl ⟨by rfl, ?_⟩) ?_ ?_ ?_; rotate_left; (focus intro w'; go_simp; with_reducible rfl); rotate_left; (focus simp only [pk]; rfl)
           refine pA 34 37 (bu 73 35) ?_ HT_ rfl rfl (.inl ⟨by rfl, ?_⟩) ?_ ?_ ?_; rotate_left; (focus intro w'; go_simp; with_reducible rfl); rotate_left; (focus simp only [pk]; rfl)
           refine pA 35 38 (bu 73 36) ?_ HT_ rfl rfl (.inl ⟨by rfl, ?_⟩) ?_ ?_ ?_; rotate_left; (focus intro w'; go_simp; with_reducible rfl); rotate_left; (focus simp only [pk]; rfl)
           refine tA 36 39 (bu 73 37) ?_ HT_ HW_ rfl rfl (.inl ⟨by rfl, ?_⟩) hHeld ?_ ?_ ?_; rotate_left; (focus rintro w' ⟨s0, s1, s2, s3, s4, s5, s6⟩; go_simp; with_reducible rfl); rotate_left; (focus simp only [pk]; rfl)
           refine pA 37 40 (bu 73 38) ?_ HT_ rfl rfl (.inl ⟨by rfl, ?_⟩) ?_ ?_ ?_; rotate_left; (focus intro w'; go_simp; with_reducible rfl); rotate_left; (focus simp only [pk]; rfl)
           refine pA 38 41 (bu 73 39) ?_ HT_ rfl rfl (.inl ⟨by rfl, ?_⟩) ?_ ?_ ?_; rotate_left; (focus intro w'; go_simp; with_reducible rfl); rotate_left; (focus simp only [pk]; rfl)
           refine pA 39 42 (bu 73 40) ?_ HT_ rfl rfl (.inl ⟨by rfl, ?_⟩) ?_ ?_ ?_; rotate_left; (focus intro w'; go_simp; with_reducible rfl); rotate_left; (focus simp only [pk]; rfl)
           refine tA 40 43 (bu 73 41) ?_ HT_ HW_ rfl rfl (.inl ⟨by rfl, ?_⟩) hHeld ?_ ?_ ?_; rotate_left; (focus rintro w' ⟨s0, s1, s2, s3, s4, s5, s6⟩; go_simp; with_reducible rfl); rotate_left; (focus simp only [pk]; rfl)
           refine pA 41 44 (bu 73 42) ?_ HT_ rfl rfl (.inl ⟨by rfl, ?_⟩) ?_ ?_ ?_; rotate_left; (focus intro w'; go_simp; with_reducible rfl); rotate_left; (focus simp only [pk]; rfl)
           refine pA 42 45 (bu 73 43) ?_ HT_ rfl rfl (.inl ⟨by rfl, ?_⟩) ?_ ?_ ?_; rotate_left; (focus intro w'; go_simp; with_reducible rfl); rotate_left; (focus simp only [pk]; rfl)
           refine pA 43 46 (bu 73 44) ?_ HT_ rfl rfl (.inl ⟨by rfl, ?_⟩) ?_ ?_ ?_; rotate_left; (focus intro w'; go_simp; with_reducible rfl); rotate_left; (focus simp only [pk]; rfl)
           refine pA 44 47 (bu 73 45) ?_ HT_ rfl rfl (.inl ⟨by rfl, ?_⟩) ?_ ?_ ?_; rotate_left; (focus intro w'; go_simp; with_reducible rfl); rotate_left; (focus simp only [pk]; rfl)
           refine pA 45 48 (bu 73 46) ?_ HT_ rfl rfl (.inl ⟨by rfl, ?_⟩) ?_ ?_ ?_; rotate_left; (focus intro w'; go_simp; with_reducible rfl); rotate_left; (focus simp only [pk]; rfl)
           refine pA 46 49 (bu 73 47) ?_ HT_ rfl rfl (.inl ⟨by rfl, ?_⟩) ?_ ?_ ?_; rotate_left; (focus intro w'; go_simp; with_reducible rfl); rotate_left; (focus simp only [pk]; rfl)
           refine tA 47 50 (bu 73 48) ?_ HT_ HW_ rfl rfl (.inl ⟨by rfl, ?_⟩) hHeld ?_ ?_ ?_; rotate_left; (focus rintro w' ⟨s0, s1, s2, s3, s4, s5, s6⟩; go_simp; with_reducible rfl); rotate_left; (focus simp only [pk]; rfl)
           refine pA 48 51 (bu 73 49) ?_ HT_ rfl rfl (.inl ⟨by rfl, ?_⟩) ?_ ?_ ?_; rotate_left; (focus intro w'; go_simp; with_reducible rfl); rotate_left; (focus simp only [pk]; rfl)
           refine pA 49 52 (bu 73 50) ?_ HT_ rfl rfl (.inl ⟨by rfl, ?_⟩) ?_ ?_ ?_; rotate_left; (focus intro w'; go_simp; with_reducible rfl); rotate_left; (focus simp only [pk]; rfl)
           refine pA 50 53 (bu 73 51) ?_ HT_ rfl rfl (.inl ⟨by rfl, ?_⟩) ?_ ?_ ?_; rotate_left; (focus intro w'; go_simp; with_reducible rfl); rotate_left; (focus simp only [pk]; rfl)
           refine pU 51 54 (bu 73 52) HT_ ?_ ?_ ?_; rotate_left; (focus simp only [pk]; rfl)
           refine pU 52 55 (bu 73 53) HT_ ?_ ?_ ?_; rotate_left; (focus simp only [pk]; rfl)
           refine pU 53 56 (bu 73 54) HT_ ?_ ?_ ?_; rotate_left; (focus simp only [pk]; rfl)
           refine pU 54 57 (bu 73 55) HT_ ?_ ?_ ?_; rotate_left; (focus simp only [pk]; rfl)
           refine pU 55 58 (bu 73 56) HT_ ?_ ?_ ?_; rotate_left; (focus simp only [pk]; rfl)
           refine pU 56 59 (bu 73 57) HT_ ?_ ?_ ?_; rotate_left; (focus simp only [pk]; rfl)
           refine pU 57 60 (bu 73 58) HT_ ?_ ?_ ?_; rotate_left; (focus simp only [pk]; rfl)
           refine pA 58 61 (bu 73 59) ?_ HT_ rfl rfl (.inl ⟨by rfl, ?_⟩) ?_ ?_ ?_; rotate_left; (focus intro w'; go_simp; with_reducible rfl); rotate_left; (focus simp only [pk]; rfl)
           refine pA 59 62 (bu 73 60) ?_ HT_ rfl rfl (.inl ⟨by rfl, ?_⟩) ?_ ?_ ?_; rotate_left; (focus intro w'; go_simp; with_reducible rfl); rotate_left; (focus simp only [pk]; rfl)
           refine pU 60 63 (bu 73 61) HT_ ?_ ?_ ?_; rotate_left; (focus simp only [pk]; rfl)
           refine pU 61 64 (bu 73 62) HT_ ?_ ?_ ?_; rotate_left; (focus simp only [pk]; rfl)
           refine pU 62 65 (bu 73 63) HT_ ?_ ?_ ?_; rotate_left; (focus simp only [pk]; rfl)
           refine pU 63 66 (bu 73 64) HT_ ?_ ?_ ?_; rotate_left; (focus simp only [pk]; rfl)
           refine pU 64 67 (bu 73 65) HT_ ?_ ?_ ?_; rotate_left; (focus simp only [pk]; rfl)
           refine pA 65 68 (bu 73 66) ?_ HT_ rfl rfl (.inl ⟨by rfl, ?_⟩) ?_ ?_ ?_; rotate_left; (focus intro w'; go_simp; with_reducible rfl); rotate_left; (focus simp only [pk]; rfl)
           refine pA 66 69 (bu 73 67) ?_ HT_ rfl rfl (.inl ⟨by rfl, ?_⟩) ?_ ?_ ?_; rotate_left; (focus intro w'; go_simp; with_reducible rfl); rotate_left; (focus simp only [pk]; rfl)
           refine pU 67 70 (bu 73 68) HT_ ?_ ?_ ?_; rotate_left; (focus simp only [pk]; rfl)
           refine pU 68 71 (bu 73 69) HT_ ?_ ?_ ?_; rotate_left; (focus simp only [pk]; rfl)
           refine pU 69 72 (bu 73 70) HT_ ?_ ?_ ?_; rotate_left; (focus simp only [pk]; rfl)
           refine pU 70 73 (bu 73 71) HT_ ?_ ?_ ?_; rotate_left; (focus simp only [pk]; rfl)
           refine pU 71 74 (bu 73 72) HT_ ?_ ?_ ?_; rotate_left; (focus simp only [pk]; rfl)
           refine pA 72 75 (bu 73 73) ?_ HT_ rfl rfl (.inl ⟨by rfl, ?_⟩) ?_ ?_ ?_; rotate_left; (focus intro w'; go_simp; with_reducible rfl); rotate_left; (focus simp only [pk]; rfl)
           refine done_ (done_of HT_.out (by kernel_rfl)) ?_
           try go_wp2
           go_ret
           exact ⟨by first | rfl | (simp [errW_none, errW_some] <;> rfl) | (simp [*, errW_none, errW_some] <;> rfl), by repeat (first | (with_reducible first | exact HB.out | apply b1 | apply b2 | apply b3 | refine below_set ?_ GE110.out) | exact HB.out)⟩
          ·rw [if_neg c41] at H
           have c41b0 : decide (a0_3 < 0) = false := decide_eq_false c41
           clear c41
           replace H := Option.bind_eq_some_iff.mp H
           obtain ⟨t113, A440, H⟩ := H
           replace H : (if a0_3 > t113 then (some 1) else (if a0_4 < a0_3 then (some 1) else ((sender_top.f a0_0 l0_1 false a0_3 a0_4 a0_5 a0_6).bind fun t114 => (if a0_4 > t114 then (some 1) else (some 0))))) = some r := H
           have A44 := Aside0.mk A440
           clear A440
           by_cases c45 : a0_3 > t113
           ·rw [if_pos c45] at H
            have c45b0 : decide (t113 < a0_3) = true := decide_eq_true c45
            clear c45
            obtain rfl := Option.some.inj H
            go_enter Try.func18, Try.ntmps18
            try go_wp2_with (first | ((with_reducible refine gate_dst (N := 1) rfl ?_); (try (refine gate_guard (by rfl) ?_; dsimp only)); refine box_event ?hg (N := 1) ?hd (cs := #[.int .i64 a0_0, .slice A0_1 l0_1.length c0_1, .bool false, .int .i64 a0_3, .int .i64 a0_4, .int .i64 a0_5, .bool a0_6]) (t := 24) ?hr ?_; (case hd => rfl); (case hg => rfl); (case hr => first | (go_simp; done) | (go_simp; rfl)); intro gb110 hg w46 hbox hb; have n0_ := Aside0.mk (below_step (by first | with_reducible exact HB.out | exact sB HB.out) hb); have n1_ := Aside0.mk (hbox); have n2_ := Aside0.mk ((by rw [hg]; exact (below_size (by first | with_reducible exact HB.out | exact sB HB.out)) : w.heap.size ≤ gb110)); have n3_ := Aside0.mk ((by rw [hg]; exact (below_size (by first | with_reducible exact HB.out | exact sB HB.out)) : w.heap.size ≤ gb110)); clear HB; have HB := n0_; have BK110 := n1_; have GW110 := n2_; have GE110 := n3_; clear n0_ n1_ n2_ n3_; clear hb hbox hg))
            have n0_ := Aside0.mk (blk_drew BK110.out)
            have n1_ := Aside0.mk (below_drew1 HB.out)
            clear BK110
            clear HB
            have BK110 := n0_
            have HB := n1_
            clear n0_ n1_
            refine start_ (n := 73) (S := fun w' => w'.cell? ⟨gb110, 0, none⟩ = some (.int .i64 a0_0) ∧ w'.cell? ⟨gb110, 1, none⟩ = some (.slice A0_1 l0_1.length c0_1) ∧ w'.cell? ⟨gb110, 2, none⟩ = some (.bool false) ∧ w'.cell? ⟨gb110, 3, none⟩ = some (.int .i64 a0_3) ∧ w'.cell? ⟨gb110, 4, none⟩ = some (.int .i64 a0_4) ∧ w'.cell? ⟨gb110, 5, none⟩ = some (.int .i64 a0_5) ∧ w'.cell? ⟨gb110, 6, none⟩ = some (.bool a0_6)) (ds := []) (bu 73 0) (by kernel_rfl) rfl rfl ⟨(blk_cell BK110.out 0).trans rfl, (blk_cell BK110.out 1).trans rfl, (blk_cell BK110.out 2).trans rfl, (blk_cell BK110.out 3).trans rfl, (blk_cell BK110.out 4).trans rfl, (blk_cell BK110.out 5).trans rfl, (blk_cell BK110.out 6).trans rfl⟩ (fun hHeld => ?_); refine with_tabW sender_Check.tab1 sender_Check.bits1 (fun HT_ HW_ => ?_)
            generalize w46.drew = w47 at BK110 HB hHeld ⊢
            refine pA 0 3 (bu 73 1) ?_ HT_ rfl rfl (.inl ⟨by rfl, ?_⟩) ?_ ?_ ?_; rotate_left; (focus intro w'; go_simp; with_reducible rfl); rotate_left; (focus simp only [pk]; rfl)
            refine tA 1 4 (bu 73 2) ?_ HT_ HW_ rfl rfl (.inl ⟨by rfl, ?_⟩) hHeld ?_ ?_ ?_; rotate_left; (focus rintro w' ⟨s0, s1, s2, s3, s4, s5, s6⟩; go_simp; with_reducible rfl); rotate_left; (focus simp only [pk]; rfl)
            refine pA 2 5 (bu 73 3) ?_ HT_ rfl rfl (.inl ⟨by rfl, ?_⟩) ?_ ?_ ?_; rotate_left; (focus intro w'; go_simp; with_reducible rfl); rotate_left; (focus simp only [pk]; rfl)
            refine pA 3 6 (bu 73 4) ?_ HT_ rfl rfl (.inl ⟨by rfl, ?_⟩) ?_ ?_ ?_; rotate_left; (focus intro w'; go_simp; with_reducible rfl); rotate_left; (focus simp only [pk]; rfl)
            refine pA 4 7 (bu 73 5) ?_ HT_ rfl rfl (.inl ⟨by rfl, ?_⟩) ?_ ?_ ?_; rotate_left; (focus intro w'; go_simp; with_reducible rfl); rotate_left; (focus simp only [pk]; rfl)
            refine tA 5 8 (bu 73 6) ?_ HT_ HW_ rfl rfl (.inl ⟨by rfl, ?_⟩) hHeld ?_ ?_ ?_; rotate_left; (focus rintro w' ⟨s0, s1, s2, s3, s4, s5, s6⟩; go_simp; with_reducible rfl); rotate_left; (focus simp only [pk]; rfl)
            refine pA 6 9 (bu 73 7) ?_ HT_ rfl rfl (.inl ⟨by rfl, ?_⟩) ?_ ?_ ?_; rotate_left; (focus intro w'; go_simp; with_reducible rfl); rotate_left; (focus simp only [pk]; rfl)
            refine pA 7 10 (bu 73 8) ?_ HT_ rfl rfl (.inl ⟨by rfl, ?_⟩) ?_ ?_ ?_; rotate_left; (focus intro w'; go_simp; with_reducible rfl); rotate_left; (focus simp only [pk]; rfl)
            refine pA 8 11 (bu 73 9) ?_ HT_ rfl rfl (.inl ⟨by rfl, ?_⟩) ?_ ?_ ?_; rotate_left; (focus intro w'; go_simp; with_reducible rfl); rotate_left; (focus simp only [pk]; rfl)
            refine pA 9 12 (bu 73 10) ?_ HT_ rfl rfl (.inl ⟨by rfl, ?_⟩) ?_ ?_ ?_; rotate_left; (focus intro w'; go_simp; with_reducible rfl); rotate_left; (focus simp only [pk]; rfl)
            refine tA 10 13 (bu 73 11) ?_ HT_ HW_ rfl rfl (.inl ⟨by rfl, ?_⟩) hHeld ?_ ?_ ?_; rotate_left; (focus rintro w' ⟨s0, s1, s2, s3, s4, s5, s6⟩; go_simp; with_reducible rfl); rotate_left; (focus simp only [pk]; rfl)
            refine pA 11 14 (bu 73 12) ?_ HT_ rfl rfl (.inl ⟨by rfl, ?_⟩) ?_ ?_ ?_; rotate_left; (focus intro w'; go_simp; with_reducible rfl); rotate_left; (focus simp only [pk]; rfl)
            refine pA 12 15 (bu 73 13) ?_ HT_ rfl rfl (.inl ⟨by rfl, ?_⟩) ?_ ?_ ?_; rotate_left; (focus intro w'; go_simp; with_reducible rfl); rotate_left; (focus simp only [pk]; rfl)
            refine pA 13 16 (bu 73 14) ?_ HT_ rfl rfl (.inl ⟨by rfl, ?_⟩) ?_ ?_ ?_; rotate_left; (focus intro w'; go_simp; with_reducible rfl); rotate_left; (focus simp only [pk]; rfl)
            refine pA 14 17 (bu 73 15) ?_ HT_ rfl rfl (.inl ⟨by rfl, ?_⟩) ?_ ?_ ?_; rotate_left; (focus intro w'; go_simp; with_reducible rfl); rotate_left; (focus simp only [pk]; rfl)
            refine pA 15 18 (bu 73 16) ?_ HT_ rfl rfl (.inl ⟨by rfl, ?_⟩) ?_ ?_ ?_; rotate_left; (focus intro w'; go_simp; with_reducible rfl); rotate_left; (focus simp only [pk]; rfl)
            refine tA 16 19 (bu 73 17) ?_ HT_ HW_ rfl rfl (.inl ⟨by rfl, ?_⟩) hHeld ?_ ?_ ?_; rotate_left; (focus rintro w' ⟨s0, s1, s2, s3, s4, s5, s6⟩; go_simp; with_reducible rfl); rotate_left; (focus simp only [pk]; rfl)
            refine pA 17 20 (bu 73 18) ?_ HT_ rfl rfl (.inl ⟨by rfl, ?_⟩) ?_ ?_ ?_; rotate_left; (focus intro w'; go_simp; with_reducible rfl); rotate_left; (focus simp only [pk]; rfl)
            refine pA 18 21 (bu 73 19) ?_ HT_ rfl rfl (.inl ⟨by rfl, ?_⟩) ?_ ?_ ?_; rotate_left; (focus intro w'; go_simp; with_reducible rfl); rotate_left; (focus simp only [pk]; rfl)
            refine pA 19 22 (bu 73 20) ?_ HT_ rfl rfl (.inl ⟨by rfl, ?_⟩) ?_ ?_ ?_; rotate_left; (focus intro w'; go_simp; with_reducible rfl); rotate_left; (focus simp only [pk]; rfl)
            refine pA 20 23 (bu 73 21) ?_ HT_ rfl rfl (.inl ⟨by rfl, ?_⟩) ?_ ?_ ?_; rotate_left; (focus intro w'; go_simp; with_reducible rfl); rotate_left; (focus simp only [pk]; rfl)
            refine pA 21 24 (bu 73 22) ?_ HT_ rfl rfl (.inl ⟨by rfl, ?_⟩) ?_ ?_ ?_; rotate_left; (focus intro w'; go_simp; with_reducible rfl); rotate_left; (focus simp only [pk]; rfl)
            refine tA 22 25 (bu 73 23) ?_ HT_ HW_ rfl rfl (.inl ⟨by rfl, ?_⟩) hHeld ?_ ?_ ?_; rotate_left; (focus rintro w' ⟨s0, s1, s2, s3, s4, s5, s6⟩; go_simp; with_reducible rfl); rotate_left; (focus simp only [pk]; rfl)
            refine pA 23 26 (bu 73 24) ?_ HT_ rfl rfl (.inl ⟨by rfl, ?_⟩) ?_ ?_ ?_; rotate_left; (focus intro w'; go_simp; with_reducible rfl); rotate_left; (focus simp only [pk]; rfl)
            refine pA 24 27 (bu 73 25) ?_ HT_ rfl rfl (.inl ⟨by rfl, ?_⟩) ?_ ?_ ?_; rotate_left; (focus intro w'; go_simp; with_reducible rfl); rotate_left; (focus simp only [pk]; rfl)
            refine pA 25 28 (bu 73 26) ?_ HT_ rfl rfl (.inl ⟨by rfl, ?_⟩) ?_ ?_ ?_; rotate_left; (focus intro w'; go_simp; with_reducible rfl); rotate_left; (focus simp only [pk]; rfl)
            refine pA 26 29 (bu 73 27) ?_ HT_ rfl rfl (.inl ⟨by rfl, ?_⟩) ?_ ?_ ?_; rotate_left; (focus intro w'; go_simp; with_reducible rfl); rotate_left; (focus simp only [pk]; rfl)
            refine tA 27 30 (bu 73 28) ?_ HT_ HW_ rfl rfl (.inl ⟨by rfl, ?_⟩) hHeld ?_ ?_ ?_; rotate_left; (focus rintro w' ⟨s0, s1, s2, s3, s4, s5, s6⟩; go_simp; with_reducible rfl); rotate_left; (focus simp only [pk]; rfl)
            refine pA 28 31 (bu 73 29) ?_ HT_ rfl rfl (.inl ⟨by rfl, ?_⟩) ?_ ?_ ?_; rotate_left; (focus intro w'; go_simp; with_reducible rfl); rotate_left; (focus simp only [pk]; rfl)
            refine pA 29 32 (bu 73 30) ?_ HT_ rfl rfl (.inl ⟨by rfl, ?_⟩) ?_ ?_ ?_; rotate_left; (focus intro w'; go_simp; with_reducible rfl); rotate_left; (focus simp only [pk]; rfl)
            refine pA 30 33 (bu 73 31) ?_ HT_ rfl rfl (.inl ⟨by rfl, ?_⟩) ?_ ?_ ?_; rotate_left; (focus intro w'; go_simp; with_reducible rfl); rotate_left; (focus simp only [pk]; rfl)
            refine pA 31 34 (bu 73 32) ?_ HT_ rfl rfl (.inl ⟨by rfl, ?_⟩) ?_ ?_ ?_; rotate_left; (focus intro w'; go_simp; with_reducible rfl); rotate_left; (focus simp only [pk]; rfl)
            refine tA 32 35 (bu 73 33) ?_ HT_ HW_ rfl rfl (.inl ⟨by rfl, ?_⟩) hHeld ?_ ?_ ?_; rotate_left; (focus rintro w' ⟨s0, s1, s2, s3, s4, s5, s6⟩; go_simp; with_reducible rfl); rotate_left; (focus simp only [pk]; rfl)
            refine pA 33 36 (bu 73 34) ?_ HT_ rfl rfl (.inl ⟨by rfl, ?_⟩) ?_ ?_ ?_; rotate_left; (focus intro w'; go_simp; with_reducible rfl); rotate_left; (focus simp only [pk]; rfl)
            refine pA 34 37 (bu 73 35) ?_ HT_ rfl rfl (.inl ⟨by rfl, ?_⟩) ?_ ?_ ?_; rotate_left; (focus intro w'; go_simp; with_reducible rfl); rotate_left; (focus simp only [pk]; rfl)
            refine pA 35 38 (bu 73 36) ?_ HT_ rfl rfl (.inl ⟨by rfl, ?_⟩) ?_ ?_ ?_; rotate_left; (focus intro w'; go_simp; with_reducible rfl); rotate_left; (focus simp only [pk]; rfl)
            refine tA 36 39 (bu 73 37) ?_ HT_ HW_ rfl rfl (.inl ⟨by rfl, ?_⟩) hHeld ?_ ?_ ?_; rotate_left; (focus rintro w' ⟨s0, s1, s2, s3, s4, s5, s6⟩; go_simp; with_reducible rfl); rotate_left; (focus simp only [pk]; rfl)
            refine pA 37 40 (bu 73 38) ?_ HT_ rfl rfl (.inl ⟨by rfl, ?_⟩) ?_ ?_ ?_; rotate_left; (focus intro w'; go_simp; with_reducible rfl); rotate_left; (focus simp only [pk]; rfl)
            refine pA 38 41 (bu 73 39) ?_ HT_ rfl rfl (.inl ⟨by rfl, ?_⟩) ?_ ?_ ?_; rotate_left; (focus intro w'; go_simp; with_reducible rfl); rotate_left; (focus simp only [pk]; rfl)
            refine pA 39 42 (bu 73 40) ?_ HT_ rfl rfl (.inl ⟨by rfl, ?_⟩) ?_ ?_ ?_; rotate_left; (focus intro w'; go_simp; with_reducible rfl); rotate_left; (focus simp only [pk]; rfl)
            refine tA 40 43 (bu 73 41) ?_ HT_ HW_ rfl rfl (.inl ⟨by rfl, ?_⟩) hHeld ?_ ?_ ?_; rotate_left; (focus rintro w' ⟨s0, s1, s2, s3, s4, s5, s6⟩; go_simp; with_reducible rfl); rotate_left; (focus simp only [pk]; rfl)
            refine pA 41 44 (bu 73 42) ?_ HT_ rfl rfl (.inl ⟨by rfl, ?_⟩) ?_ ?_ ?_; rotate_left; (focus intro w'; go_simp; with_reducible rfl); rotate_left; (focus simp only [pk]; rfl)
            refine pA 42 45 (bu 73 43) ?_ HT_ rfl rfl (.inl ⟨by rfl, ?_⟩) ?_ ?_ ?_; rotate_left; (focus intro w'; go_simp; with_reducible rfl); rotate_left; (focus simp only [pk]; rfl)
            refine pA 43 46 (bu 73 44) ?_ HT_ rfl rfl (.inl ⟨by rfl, ?_⟩) ?_ ?_ ?_; rotate_left; (focus intro w'; go_simp; with_reducible rfl); rotate_left; (focus simp only [pk]; rfl)
            refine pA 44 47 (bu 73 45) ?_ HT_ rfl rfl (.inl ⟨by rfl, ?_⟩) ?_ ?_ ?_; rotate_left; (focus intro w'; go_simp; with_reducible rfl); rotate_left; (focus simp only [pk]; rfl)
            refine pA 45 48 (bu 73 46) ?_ HT_ rfl rfl (.inl ⟨by rfl, ?_⟩) ?_ ?_ ?_; rotate_left; (focus intro w'; go_simp; with_reducible rfl); rotate_left; (focus simp only [pk]; rfl)
            refine pA 46 49 (bu 73 47) ?_ HT_ rfl rfl (.inl ⟨by rfl, ?_⟩) ?_ ?_ ?_; rotate_left; (focus intro w'; go_simp; with_reducible rfl); rotate_left; (focus simp only [pk]; rfl)
            refine tA 47 50 (bu 73 48) ?_ HT_ HW_ rfl rfl (.inl ⟨by rfl, ?_⟩) hHeld ?_ ?_ ?_; rotate_left; (focus rintro w' ⟨s0, s1, s2, s3, s4, s5, s6⟩; go_simp; with_reducible rfl); rotate_left; (focus simp only [pk]; rfl)
            refine pA 48 51 (bu 73 49) ?_ HT_ rfl rfl (.inl ⟨by rfl, ?_⟩) ?_ ?_ ?_; rotate_left; (focus intro w'; go_simp; with_reducible rfl); rotate_left; (focus simp only [pk]; rfl)
            refine pA 49 52 (bu 73 50) ?_ HT_ rfl rfl (.inl ⟨by rfl, ?_⟩) ?_ ?_ ?_; rotate_left; (focus intro w'; go_simp; with_reducible rfl); rotate_left; (focus simp only [pk]; rfl)
            refine pA 50 53 (bu 73 51) ?_ HT_ rfl rfl (.inl ⟨by rfl, ?_⟩) ?_ ?_ ?_; rotate_left; (focus intro w'; go_simp; with_reducible rfl); rotate_left; (focus simp only [pk]; rfl)
            refine pA 51 54 (bu 73 52) ?_ HT_ rfl rfl (.inl ⟨by rfl, ?_⟩) ?_ ?_ ?_; rotate_left; (focus intro w'; go_simp; with_reducible rfl); rotate_left; (focus simp only [pk]; rfl)
            refine pA 53 56 (bm 73 0x2fffffffffffff) ?_ HT_ rfl rfl (.inl ⟨by rfl, ?_⟩) ?_ ?_ ?_; rotate_left; (focus intro w'; go_simp; with_reducible rfl); rotate_left; (focus simp only [pk]; rfl)
            refine tA 52 55 (bu 73 54) ?_ HT_ HW_ rfl rfl (.inl ⟨by rfl, ?_⟩) hHeld ?_ ?_ ?_; rotate_left; (focus rintro w' ⟨s0, s1, s2, s3, s4, s5, s6⟩; go_simp; with_reducible rfl); rotate_left; (focus simp only [pk]; rfl)
            refine tA 54 57 (bu 73 55) ?_ HT_ HW_ rfl rfl (.inl ⟨by rfl, ?_⟩) hHeld ?_ ?_ ?_; rotate_left; (focus rintro w' ⟨s0, s1, s2, s3, s4, s5, s6⟩; go_simp; with_reducible rfl); rotate_left; (focus simp only [pk]; rfl)
            refine pA 55 58 (bu 73 56) ?_ HT_ rfl rfl (.inl ⟨by rfl, ?_⟩) ?_ ?_ ?_; rotate_left; (focus intro w'; go_simp; with_reducible rfl); rotate_left; (focus simp only [pk]; rfl)
            refine one_ (i := 56) (N := some 59) (bu 73 57) rfl rfl (one_of HT_.out (by kernel_rfl)) (by decide) (fun K hK => ?_)
            refine goes_ Try.func34 (by kernel_rfl) rfl #[.int .i64 (l0_1.length : Int)] (by rfl) rfl rfl (by (try simp only [List.map_toArray, List.map_cons, List.map_nil]); first | done | rfl | (simp only [List.length_drop, List.length_take]; rfl) | (go_simp; done) | (go_simp; rfl)) ?_
            with_reducible refine (sender_count.calls (l0_1.length : Int) t113 _ A44.out).mono ?_
            rintro e w' ⟨rfl, ⟨nd, rfl⟩⟩
            refine ⟨_, rfl, ?_⟩
            refine hK.out _ _ ⟨(blk_cell BK110.out 0).trans rfl, (blk_cell BK110.out 1).trans rfl, (blk_cell BK110.out 2).trans rfl, (blk_cell BK110.out 3).trans rfl, (blk_cell BK110.out 4).trans rfl, (blk_cell BK110.out 5).trans rfl, (blk_cell BK110.out 6).trans rfl⟩ (fun hHeld => ?_)
            clear hK K
            refine norm_ (a' := ?_) ?_ ?_
            rotate_left
            ·show Act.put _ (some 59) _ = _
             simp only [Act.put, List.setIfInBounds_toArray, List.set_cons_zero, List.set_cons_succ, i64_w, i32_w]
             rfl
            refine pA 57 60 (bu 73 58) ?_ HT_ rfl rfl (.inl ⟨by rfl, ?_⟩) ?_ ?_ ?_; rotate_left; (focus intro w'; go_simp; with_reducible rfl); rotate_left; (focus simp only [pk]; rfl)
            refine pA 58 61 (bu 73 59) ?_ HT_ rfl rfl (.inl ⟨by rfl, ?_⟩) ?_ ?_ ?_; rotate_left; (focus intro w'; go_simp; with_reducible rfl); rotate_left; (focus simp only [pk]; rfl)
            refine pA 59 62 (bu 73 60) ?_ HT_ rfl rfl (.inl ⟨by rfl, ?_⟩) ?_ ?_ ?_; rotate_left; (focus intro w'; go_simp; with_reducible rfl); rotate_left; (focus simp only [pk]; rfl)
            refine pU 60 63 (bu 73 61) HT_ ?_ ?_ ?_; rotate_left; (focus simp only [pk]; rfl)
            refine pU 61 64 (bu 73 62) HT_ ?_ ?_ ?_; rotate_left; (focus simp only [pk]; rfl)
            refine pU 62 65 (bu 73 63) HT_ ?_ ?_ ?_; rotate_left; (focus simp only [pk]; rfl)
            refine pU 63 66 (bu 73 64) HT_ ?_ ?_ ?_; rotate_left; (focus simp only [pk]; rfl)
            refine pU 64 67 (bu 73 65) HT_ ?_ ?_ ?_; rotate_left; (focus simp only [pk]; rfl)
            refine pA 65 68 (bu 73 66) ?_ HT_ rfl rfl (.inl ⟨by rfl, ?_⟩) ?_ ?_ ?_; rotate_left; (focus intro w'; go_simp; with_reducible rfl); rotate_left; (focus simp only [pk]; rfl)
            refine pA 66 69 (bu 73 67) ?_ HT_ rfl rfl (.inl ⟨by rfl, ?_⟩) ?_ ?_ ?_; rotate_left; (focus intro w'; go_simp; with_reducible rfl); rotate_left; (focus simp only [pk]; rfl)
            refine pU 67 70 (bu 73 68) HT_ ?_ ?_ ?_; rotate_left; (focus simp only [pk]; rfl)
            refine pU 68 71 (bu 73 69) HT_ ?_ ?_ ?_; rotate_left; (focus simp only [pk]; rfl)
            refine pU 69 72 (bu 73 70) HT_ ?_ ?_ ?_; rotate_left; (focus simp only [pk]; rfl)
            refine pU 70 73 (bu 73 71) HT_ ?_ ?_ ?_; rotate_left; (focus simp only [pk]; rfl)
            refine pU 71 74 (bu 73 72) HT_ ?_ ?_ ?_; rotate_left; (focus simp only [pk]; rfl)
            refine pA 72 75 (bu 73 73) ?_ HT_ rfl rfl (.inl ⟨by rfl, ?_⟩) ?_ ?_ ?_; rotate_left; (focus intro w'; go_simp; with_reducible rfl); rotate_left; (focus simp only [pk]; rfl)
            refine done_ (done_of HT_.out (by kernel_rfl)) ?_
            try go_wp2
            go_ret
            exact ⟨by first | rfl | (simp [errW_none, errW_some] <;> rfl) | (simp [*, errW_none, errW_some] <;> rfl), by repeat (first | (with_reducible first | exact HB.out | apply b1 | apply b2 | apply b3 | refine below_set ?_ GE110.out) | exact HB.out)⟩
           ·rw [if_neg c45] at H
            have c45b0 : decide (t113 < a0_3) = false := decide_eq_false c45
            clear c45
            by_cases c48 : a0_4 < a0_3
            ·rw [if_pos c48] at H
             have c48b0 : decide (a0_4 < a0_3) = true := decide_eq_true c48
             clear c48
             obtain rfl := Option.some.inj H
             go_enter Try.func18, Try.ntmps18
             try go_wp2_with (first | ((with_reducible refine gate_dst (N := 1) rfl ?_); (try (refine gate_guard (by rfl) ?_; dsimp only)); refine box_event ?hg (N := 1) ?hd (cs := #[.int .i64 a0_0, .slice A0_1 l0_1.length c0_1, .bool false, .int .i64 a0_3, .int .i64 a0_4, .int .i64 a0_5, .bool a0_6]) (t := 24) ?hr ?_; (case hd => rfl); (case hg => rfl); (case hr => first | (go_simp; done) | (go_simp; rfl)); intro gb110 hg w49 hbox hb; have n0_ := Aside0.mk (below_step (by first | with_reducible exact HB.out | exact sB HB.out) hb); have n1_ := Aside0.mk (hbox); have n2_ := Aside0.mk ((by rw [hg]; exact (below_size (by first | with_reducible exact HB.out | exact sB HB.out)) : w.heap.size ≤ gb110)); have n3_ := Aside0.mk ((by rw [hg]; exact (below_size (by first | with_reducible exact HB.out | exact sB HB.out)) : w.heap.size ≤ gb110)); clear HB; have HB := n0_; have BK110 := n1_; have GW110 := n2_; have GE110 := n3_; clear n0_ n1_ n2_ n3_; clear hb hbox hg))
             have n0_ := Aside0.mk (blk_drew BK110.out)
             have n1_ := Aside0.mk (below_drew1 HB.out)
             clear BK110
             clear HB
             have BK110 := n0_
             have HB := n1_
             clear n0_ n1_
             refine start_ (n := 73) (S := fun w' => w'.cell? ⟨gb110, 0, none⟩ = some (.int .i64 a0_0) ∧ w'.cell? ⟨gb110, 1, none⟩ = some (.slice A0_1 l0_1.length c0_1) ∧ w'.cell? ⟨gb110, 2, none⟩ = some (.bool false) ∧ w'.cell? ⟨gb110, 3, none⟩ = some (.int .i64 a0_3) ∧ w'.cell? ⟨gb110, 4, none⟩ = some (.int .i64 a0_4) ∧ w'.cell? ⟨gb110, 5, none⟩ = some (.int .i64 a0_5) ∧ w'.cell? ⟨gb110, 6, none⟩ = some (.bool a0_6)) (ds := []) (bu 73 0) (by kernel_rfl) rfl rfl ⟨(blk_cell BK110.out 0).trans rfl, (blk_cell BK110.out 1).trans rfl, (blk_cell BK110.out 2).trans rfl, (blk_cell BK110.out 3).trans rfl, (blk_cell BK110.out 4).trans rfl, (blk_cell BK110.out 5).trans rfl, (blk_cell BK110.out 6).trans rfl⟩ (fun hHeld => ?_); refine with_tabW sender_Check.tab1 sender_Check.bits1 (fun HT_ HW_ => ?_)
             generalize w49.drew = w50 at BK110 HB hHeld ⊢
             refine pA 0 3 (bu 73 1) ?_ HT_ rfl rfl (.inl ⟨by rfl, ?_⟩) ?_ ?_ ?_; rotate_left; (focus intro w'; go_simp; with_reducible rfl); rotate_left; (focus simp only [pk]; rfl)
             refine tA 1 4 (bu 73 2) ?_ HT_ HW_ rfl rfl (.inl ⟨by rfl, ?_⟩) hHeld ?_ ?_ ?_; rotate_left; (focus rintro w' ⟨s0, s1, s2, s3, s4, s5, s6⟩; go_simp; with_reducible rfl); rotate_left; (focus simp only [pk]; rfl)
             refine pA 2 5 (bu 73 3) ?_ HT_ rfl rfl (.inl ⟨by rfl, ?_⟩) ?_ ?_ ?_; rotate_left; (focus intro w'; go_simp; with_reducible rfl); rotate_left; (focus simp only [pk]; rfl)
             refine pA 3 6 (bu 73 4) ?_ HT_ rfl rfl (.inl ⟨by rfl, ?_⟩) ?_ ?_ ?_; rotate_left; (focus intro w'; go_simp; with_reducible rfl); rotate_left; (focus simp only [pk]; rfl)
             refine pA 4 7 (bu 73 5) ?_ HT_ rfl rfl (.inl ⟨by rfl, ?_⟩) ?_ ?_ ?_; rotate_left; (focus intro w'; go_simp; with_reducible rfl); rotate_left; (focus simp only [pk]; rfl)
             refine tA 5 8 (bu 73 6) ?_ HT_ HW_ rfl rfl (.inl ⟨by rfl, ?_⟩) hHeld ?_ ?_ ?_; rotate_left; (focus rintro w' ⟨s0, s1, s2, s3, s4, s5, s6⟩; go_simp; with_reducible rfl); rotate_left; (focus simp only [pk]; rfl)
             refine pA 6 9 (bu 73 7) ?_ HT_ rfl rfl (.inl ⟨by rfl, ?_⟩) ?_ ?_ ?_; rotate_left; (focus intro w'; go_simp; with_reducible rfl); rotate_left; (focus simp only [pk]; rfl)
             refine pA 7 10 (bu 73 8) ?_ HT_ rfl rfl (.inl ⟨by rfl, ?_⟩) ?_ ?_ ?_; rotate_left; (focus intro w'; go_simp; with_reducible rfl); rotate_left; (focus simp only [pk]; rfl)
             refine pA 8 11 (bu 73 9) ?_ HT_ rfl rfl (.inl ⟨by rfl, ?_⟩) ?_ ?_ ?_; rotate_left; (focus intro w'; go_simp; with_reducible rfl); rotate_left; (focus simp only [pk]; rfl)
             refine pA 9 12 (bu 73 10) ?_ HT_ rfl rfl (.inl ⟨by rfl, ?_⟩) ?_ ?_ ?_; rotate_left; (focus intro w'; go_simp; with_reducible rfl); rotate_left; (focus simp only [pk]; rfl)
             refine tA 10 13 (bu 73 11) ?_ HT_ HW_ rfl rfl (.inl ⟨by rfl, ?_⟩) hHeld ?_ ?_ ?_; rotate_left; (focus rintro w' ⟨s0, s1, s2, s3, s4, s5, s6⟩; go_simp; with_reducible rfl); rotate_left; (focus simp only [pk]; rfl)
             refine pA 11 14 (bu 73 12) ?_ HT_ rfl rfl (.inl ⟨by rfl, ?_⟩) ?_ ?_ ?_; rotate_left; (focus intro w'; go_simp; with_reducible rfl); rotate_left; (focus simp only [pk]; rfl)
             refine pA 12 15 (bu 73 13) ?_ HT_ rfl rfl (.inl ⟨by rfl, ?_⟩) ?_ ?_ ?_; rotate_left; (focus intro w'; go_simp; with_reducible rfl); rotate_left; (focus simp only [pk]; rfl)
             refine pA 13 16 (bu 73 14) ?_ HT_ rfl rfl (.inl ⟨by rfl, ?_⟩) ?_ ?_ ?_; rotate_left; (focus intro w'; go_simp; with_reducible rfl); rotate_left; (focus simp only [pk]; rfl)
             refine pA 14 17 (bu 73 15) ?_ HT_ rfl rfl (.inl ⟨by rfl, ?_⟩) ?_ ?_ ?_; rotate_left; (focus intro w'; go_simp; with_reducible rfl); rotate_left; (focus simp only [pk]; rfl)
             refine pA 15 18 (bu 73 16) ?_ HT_ rfl rfl (.inl ⟨by rfl, ?_⟩) ?_ ?_ ?_; rotate_left; (focus intro w'; go_simp; with_reducible rfl); rotate_left; (focus simp only [pk]; rfl)
             refine tA 16 19 (bu 73 17) ?_ HT_ HW_ rfl rfl (.inl ⟨by rfl, ?_⟩) hHeld ?_ ?_ ?_; rotate_left; (focus rintro w' ⟨s0, s1, s2, s3, s4, s5, s6⟩; go_simp; with_reducible rfl); rotate_left; (focus simp only [pk]; rfl)
             refine pA 17 20 (bu 73 18) ?_ HT_ rfl rfl (.inl ⟨by rfl, ?_⟩) ?_ ?_ ?_; rotate_left; (focus intro w'; go_simp; with_reducible rfl); rotate_left; (focus simp only [pk]; rfl)
             refine pA 18 21 (bu 73 19) ?_ HT_ rfl rfl (.inl ⟨by rfl, ?_⟩) ?_ ?_ ?_; rotate_left; (focus intro w'; go_simp; with_reducible rfl); rotate_left; (focus simp only [pk]; rfl)
             refine pA 19 22 (bu 73 20) ?_ HT_ rfl rfl (.inl ⟨by rfl, ?_⟩) ?_ ?_ ?_; rotate_left; (focus intro w'; go_simp; with_reducible rfl); rotate_left; (focus simp only [pk]; rfl)
             refine pA 20 23 (bu 73 21) ?_ HT_ rfl rfl (.inl ⟨by rfl, ?_⟩) ?_ ?_ ?_; rotate_left; (focus intro w'; go_simp; with_reducible rfl); rotate_left; (focus simp only [pk]; rfl)
             refine pA 21 24 (bu 73 22) ?_ HT_ rfl rfl (.inl ⟨by rfl, ?_⟩) ?_ ?_ ?_; rotate_left; (focus intro w'; go_simp; with_reducible rfl); rotate_left; (focus simp only [pk]; rfl)
             refine tA 22 25 (bu 73 23) ?_ HT_ HW_ rfl rfl (.inl ⟨by rfl, ?_⟩) hHeld ?_ ?_ ?_; rotate_left; (focus rintro w' ⟨s0, s1, s2, s3, s4, s5, s6⟩; go_simp; with_reducible rfl); rotate_left; (focus simp only [pk]; rfl)
             refine pA 23 26 (bu 73 24) ?_ HT_ rfl rfl (.inl ⟨by rfl, ?_⟩) ?_ ?_ ?_; rotate_left; (focus intro w'; go_simp; with_reducible rfl); rotate_left; (focus simp only [pk]; rfl)
             refine pA 24 27 (bu 73 25) ?_ HT_ rfl rfl (.inl ⟨by rfl, ?_⟩) ?_ ?_ ?_; rotate_left; (focus intro w'; go_simp; with_reducible rfl); rotate_left; (focus simp only [pk]; rfl)
             refine pA 25 28 (bu 73 26) ?_ HT_ rfl rfl (.inl ⟨by rfl, ?_⟩) ?_ ?_ ?_; rotate_left; (focus intro w'; go_simp; with_reducible rfl); rotate_left; (focus simp only [pk]; rfl)
             refine pA 26 29 (bu 73 27) ?_ HT_ rfl rfl (.inl ⟨by rfl, ?_⟩) ?_ ?_ ?_; rotate_left; (focus intro w'; go_simp; with_reducible rfl); rotate_left; (focus simp only [pk]; rfl)
             refine tA 27 30 (bu 73 28) ?_ HT_ HW_ rfl rfl (.inl ⟨by rfl, ?_⟩) hHeld ?_ ?_ ?_; rotate_left; (focus rintro w' ⟨s0, s1, s2, s3, s4, s5, s6⟩; go_simp; with_reducible rfl); rotate_left; (focus simp only [pk]; rfl)
             refine pA 28 31 (bu 73 29) ?_ HT_ rfl rfl (.inl ⟨by rfl, ?_⟩) ?_ ?_ ?_; rotate_left; (focus intro w'; go_simp; with_reducible rfl); rotate_left; (focus simp only [pk]; rfl)
             refine pA 29 32 (bu 73 30) ?_ HT_ rfl rfl (.inl ⟨by rfl, ?_⟩) ?_ ?_ ?_; rotate_left; (focus intro w'; go_simp; with_reducible rfl); rotate_left; (focus simp only [pk]; rfl)
             refine pA 30 33 (bu 73 31) ?_ HT_ rfl rfl (.inl ⟨by rfl, ?_⟩) ?_ ?_ ?_; rotate_left; (focus intro w'; go_simp; with_reducible rfl); rotate_left; (focus simp only [pk]; rfl)
             refine pA 31 34 (bu 73 32) ?_ HT_ rfl rfl (.inl ⟨by rfl, ?_⟩) ?_ ?_ ?_; rotate_left; (focus intro w'; go_simp; with_reducible rfl); rotate_left; (focus simp only [pk]; rfl)
             refine tA 32 35 (bu 73 33) ?_ HT_ HW_ rfl rfl (.inl ⟨by rfl, ?_⟩) hHeld ?_ ?_ ?_; rotate_left; (focus rintro w' ⟨s0, s1, s2, s3, s4, s5, s6⟩; go_simp; with_reducible rfl); rotate_left; (focus simp only [pk]; rfl)
             refine pA 33 36 (bu 73 34) ?_ HT_ rfl rfl (.inl ⟨by rfl, ?_⟩) ?_ ?_ ?_; rotate_left; (focus intro w'; go_simp; with_reducible rfl); rotate_left; (focus simp only [pk]; rfl)
             refine pA 34 37 (bu 73 35) ?_ HT_ rfl rfl (.inl ⟨by rfl, ?_⟩) ?_ ?_ ?_; rotate_left; (focus intro w'; go_simp; with_reducible rfl); rotate_left; (focus simp only [pk]; rfl)
             refine pA 35 38 (bu 73 36) ?_ HT_ rfl rfl (.inl ⟨by rfl, ?_⟩) ?_ ?_ ?_; rotate_left; (focus intro w'; go_simp; with_reducible rfl); rotate_left; (focus simp only [pk]; rfl)
             refine tA 36 39 (bu 73 37) ?_ HT_ HW_ rfl rfl (.inl ⟨by rfl, ?_⟩) hHeld ?_ ?_ ?_; rotate_left; (focus rintro w' ⟨s0, s1, s2, s3, s4, s5, s6⟩; go_simp; with_reducible rfl); rotate_left; (focus simp only [pk]; rfl)
             refine pA 37 40 (bu 73 38) ?_ HT_ rfl rfl (.inl ⟨by rfl, ?_⟩) ?_ ?_ ?_; rotate_left; (focus intro w'; go_simp; with_reducible rfl); rotate_left; (focus simp only [pk]; rfl)
             refine pA 38 41 (bu 73 39) ?_ HT_ rfl rfl (.inl ⟨by rfl, ?_⟩) ?_ ?_ ?_; rotate_left; (focus intro w'; go_simp; with_reducible rfl); rotate_left; (focus simp only [pk]; rfl)
             refine pA 39 42 (bu 73 40) ?_ HT_ rfl rfl (.inl ⟨by rfl, ?_⟩) ?_ ?_ ?_; rotate_left; (focus intro w'; go_simp; with_reducible rfl); rotate_left; (focus simp only [pk]; rfl)
             refine tA 40 43 (bu 73 41) ?_ HT_ HW_ rfl rfl (.inl ⟨by rfl, ?_⟩) hHeld ?_ ?_ ?_; rotate_left; (focus rintro w' ⟨s0, s1, s2, s3, s4, s5, s6⟩; go_simp; with_reducible rfl); rotate_left; (focus simp only [pk]; rfl)
             refine pA 41 44 (bu 73 42) ?_ HT_ rfl rfl (.inl ⟨by rfl, ?_⟩) ?_ ?_ ?_; rotate_left; (focus intro w'; go_simp; with_reducible rfl); rotate_left; (focus simp only [pk]; rfl)
             refine pA 42 45 (bu 73 43) ?_ HT_ rfl rfl (.inl ⟨by rfl, ?_⟩) ?_ ?_ ?_; rotate_left; (focus intro w'; go_simp; with_reducible rfl); rotate_left; (focus simp only [pk]; rfl)
             refine pA 43 46 (bu 73 44) ?_ HT_ rfl rfl (.inl ⟨by rfl, ?_⟩) ?_ ?_ ?_; rotate_left; (focus intro w'; go_simp; with_reducible rfl); rotate_left; (focus simp only [pk]; rfl)
             refine pA 44 47 (bu 73 45) ?_ HT_ rfl rfl (.inl ⟨by rfl, ?_⟩) ?_ ?_ ?_; rotate_left; (focus intro w'; go_simp; with_reducible rfl); rotate_left; (focus simp only [pk]; rfl)
             refine pA 45 48 (bu 73 46) ?_ HT_ rfl rfl (.inl ⟨by rfl, ?_⟩) ?_ ?_ ?_; rotate_left; (focus intro w'; go_simp; with_reducible rfl); rotate_left; (focus simp only [pk]; rfl)
             refine pA 46 49 (bu 73 47) ?_ HT_ rfl rfl (.inl ⟨by rfl, ?_⟩) ?_ ?_ ?_; rotate_left; (focus intro w'; go_simp; with_reducible rfl); rotate_left; (focus simp only [pk]; rfl)
             refine tA 47 50 (bu 73 48) ?_ HT_ HW_ rfl rfl (.inl ⟨by rfl, ?_⟩) hHeld ?_ ?_ ?_; rotate_left; (focus rintro w' ⟨s0, s1, s2, s3, s4, s5, s6⟩; go_simp; with_reducible rfl); rotate_left; (focus simp only [pk]; rfl)
             refine pA 48 51 (bu 73 49) ?_ HT_ rfl rfl (.inl ⟨by rfl, ?_⟩) ?_ ?_ ?_; rotate_left; (focus intro w'; go_simp; with_reducible rfl); rotate_left; (focus simp only [pk]; rfl)
             refine pA 49 52 (bu 73 50) ?_ HT_ rfl rfl (.inl ⟨by rfl, ?_⟩) ?_ ?_ ?_; rotate_left; (focus intro w'; go_simp; with_reducible rfl); rotate_left; (focus simp only [pk]; rfl)
             refine pA 50 53 (bu 73 51) ?_ HT_ rfl rfl (.inl ⟨by rfl, ?_⟩) ?_ ?_ ?_; rotate_left; (focus intro w'; go_simp; with_reducible rfl); rotate_left; (focus simp only [pk]; rfl)
             refine pA 51 54 (bu 73 52) ?_ HT_ rfl rfl (.inl ⟨by rfl, ?_⟩) ?_ ?_ ?_; rotate_left; (focus intro w'; go_simp; with_reducible rfl); rotate_left; (focus simp only [pk]; rfl)
             refine pA 53 56 (bm 73 0x2fffffffffffff) ?_ HT_ rfl rfl (.inl ⟨by rfl, ?_⟩) ?_ ?_ ?_; rotate_left; (focus intro w'; go_simp; with_reducible rfl); rotate_left; (focus simp only [pk]; rfl)
             refine tA 52 55 (bu 73 54) ?_ HT_ HW_ rfl rfl (.inl ⟨by rfl, ?_⟩) hHeld ?_ ?_ ?_; rotate_left; (focus rintro w' ⟨s0, s1, s2, s3, s4, s5, s6⟩; go_simp; with_reducible rfl); rotate_left; (focus simp only [pk]; rfl)
             refine tA 54 57 (bu 73 55) ?_ HT_ HW_ rfl rfl (.inl ⟨by rfl, ?_⟩) hHeld ?_ ?_ ?_; rotate_left; (focus rintro w' ⟨s0, s1, s2, s3, s4, s5, s6⟩; go_simp; with_reducible rfl); rotate_left; (focus simp only [pk]; rfl)
             refine pA 55 58 (bu 73 56) ?_ HT_ rfl rfl (.inl ⟨by rfl, ?_⟩) ?_ ?_ ?_; rotate_left; (focus intro w'; go_simp; with_reducible rfl); rotate_left; (focus simp only [pk]; rfl)
             refine one_ (i := 56) (N := some 59) (bu 73 57) rfl rfl (one_of HT_.out (by kernel_rfl)) (by decide) (fun K hK => ?_)
             refine goes_ Try.func34 (by kernel_rfl) rfl #[.int .i64 (l0_1.length : Int)] (by rfl) rfl rfl (by (try simp only [List.map_toArray, List.map_cons, List.map_nil]); first | done | rfl | (simp only [List.length_drop, List.length_take]; rfl) | (go_simp; done) | (go_simp; rfl)) ?_
             with_reducible refine (sender_count.calls (l0_1.length : Int) t113 _ A44.out).mono ?_
             rintro e w' ⟨rfl, ⟨nd, rfl⟩⟩
             refine ⟨_, rfl, ?_⟩
             refine hK.out _ _ ⟨(blk_cell BK110.out 0).trans rfl, (blk_cell BK110.out 1).trans rfl, (blk_cell BK110.out 2).trans rfl, (blk_cell BK110.out 3).trans rfl, (blk_cell BK110.out 4).trans rfl, (blk_cell BK110.out 5).trans rfl, (blk_cell BK110.out 6).trans rfl⟩ (fun hHeld => ?_)
             clear hK K
             refine norm_ (a' := ?_) ?_ ?_
             rotate_left
             ·show Act.put _ (some 59) _ = _
              simp only [Act.put, List.setIfInBounds_toArray, List.set_cons_zero, List.set_cons_succ, i64_w, i32_w]
              rfl
             refine pA 57 60 (bu 73 58) ?_ HT_ rfl rfl (.inl ⟨by rfl, ?_⟩) ?_ ?_ ?_; rotate_left; (focus intro w'; go_simp; with_reducible rfl); rotate_left; (focus simp only [pk]; rfl)
             refine pA 58 61 (bu 73 59) ?_ HT_ rfl rfl (.inl ⟨by rfl, ?_⟩) ?_ ?_ ?_; rotate_left; (focus intro w'; go_simp; with_reducible rfl); rotate_left; (focus simp only [pk]; rfl)
             refine pA 59 62 (bu 73 60) ?_ HT_ rfl rfl (.inl ⟨by rfl, ?_⟩) ?_ ?_ ?_; rotate_left; (focus intro w'; go_simp; with_reducible rfl); rotate_left; (focus simp only [pk]; rfl)
             refine pA 60 63 (bu 73 61) ?_ HT_ rfl rfl (.inl ⟨by rfl, ?_⟩) ?_ ?_ ?_; rotate_left; (focus intro w'; go_simp; with_reducible rfl); rotate_left; (focus simp only [pk]; rfl)
             refine pA 62 65 (bm 73 0x5fffffffffffffff) ?_ HT_ rfl rfl (.inl ⟨by rfl, ?_⟩) ?_ ?_ ?_; rotate_left; (focus intro w'; go_simp; with_reducible rfl); rotate_left; (focus simp only [pk]; rfl)
             refine tA 61 64 (bu 73 63) ?_ HT_ HW_ rfl rfl (.inl ⟨by rfl, ?_⟩) hHeld ?_ ?_ ?_; rotate_left; (focus rintro w' ⟨s0, s1, s2, s3, s4, s5, s6⟩; go_simp; with_reducible rfl); rotate_left; (focus simp only [pk]; rfl)
             refine tA 63 66 (bu 73 64) ?_ HT_ HW_ rfl rfl (.inl ⟨by rfl, ?_⟩) hHeld ?_ ?_ ?_; rotate_left; (focus rintro w' ⟨s0, s1, s2, s3, s4, s5, s6⟩; go_simp; with_reducible rfl); rotate_left; (focus simp only [pk]; rfl)
             refine pA 64 67 (bu 73 65) ?_ HT_ rfl rfl (.inl ⟨by rfl, ?_⟩) ?_ ?_ ?_; rotate_left; (focus intro w'; go_simp; with_reducible rfl); rotate_left; (focus simp only [pk]; rfl)
             refine pA 65 68 (bu 73 66) ?_ HT_ rfl rfl (.inl ⟨by rfl, ?_⟩) ?_ ?_ ?_; rotate_left; (focus intro w'; go_simp; with_reducible rfl); rotate_left; (focus simp only [pk]; rfl)
             refine pA 66 69 (bu 73 67) ?_ HT_ rfl rfl (.inl ⟨by rfl, ?_⟩) ?_ ?_ ?_; rotate_left; (focus intro w'; go_simp; with_reducible rfl); rotate_left; (focus simp only [pk]; rfl)
             refine pU 67 70 (bu 73 68) HT_ ?_ ?_ ?_; rotate_left; (focus simp only [pk]; rfl)
             refine pU 68 71 (bu 73 69) HT_ ?_ ?_ ?_; rotate_left; (focus simp only [pk]; rfl)
             refine pU 69 72 (bu 73 70) HT_ ?_ ?_ ?_; rotate_left; (focus simp only [pk]; rfl)
             refine pU 70 73 (bu 73 71) HT_ ?_ ?_ ?_; rotate_left; (focus simp only [pk]; rfl)
             refine pU 71 74 (bu 73 72) HT_ ?_ ?_ ?_; rotate_left; (focus simp only [pk]; rfl)
             refine pA 72 75 (bu 73 73) ?_ HT_ rfl rfl (.inl ⟨by rfl, ?_⟩) ?_ ?_ ?_; rotate_left; (focus intro w'; go_simp; with_reducible rfl); rotate_left; (focus simp only [pk]; rfl)
             refine done_ (done_of HT_.out (by kernel_rfl)) ?_
             try go_wp2
             go_ret
             exact ⟨by first | rfl | (simp [errW_none, errW_some] <;> rfl) | (simp [*, errW_none, errW_some] <;> rfl), by repeat (first | (with_reducible first | exact HB.out | apply b1 | apply b2 | apply b3 | refine below_set ?_ GE110.out) | exact HB.out)⟩
            ·rw [if_neg c48] at H
             have c48b0 : decide (a0_4 < a0_3) = false := decide_eq_false c48
             clear c48
             replace H := Option.bind_eq_some_iff.mp H
             obtain ⟨t114, A510, H⟩ := H
             replace H : (if a0_4 > t114 then (some 1) else (some 0)) = some r := H
             have A51 := Aside0.mk A510
             clear A510
             by_cases c52 : a0_4 > t114
             ·rw [if_pos c52] at H
              have c52b0 : decide (t114 < a0_4) = true := decide_eq_true c52
              clear c52
              obtain rfl := Option.some.inj H
              go_enter Try.func18, Try.ntmps18
              try go_wp2_with (first | ((with_reducible refine gate_dst (N := 1) rfl ?_); (try (refine gate_guard (by rfl) ?_; dsimp only)); refine box_event ?hg (N := 1) ?hd (cs := #[.int .i64 a0_0, .slice A0_1 l0_1.length c0_1, .bool false, .int .i64 a0_3, .int .i64 a0_4, .int .i64 a0_5, .bool a0_6]) (t := 24) ?hr ?_; (case hd => rfl); (case hg => rfl); (case hr => first | (go_simp; done) | (go_simp; rfl)); intro gb110 hg w53 hbox hb; have n0_ := Aside0.mk (below_step (by first | with_reducible exact HB.out | exact sB HB.out) hb); have n1_ := Aside0.mk (hbox); have n2_ := Aside0.mk ((by rw [hg]; exact (below_size (by first | with_reducible exact HB.out | exact sB HB.out)) : w.heap.size ≤ gb110)); have n3_ := Aside0.mk ((by rw [hg]; exact (below_size (by first | with_reducible exact HB.out | exact sB HB.out)) : w.heap.size ≤ gb110)); clear HB; have HB := n0_; have BK110 := n1_; have GW110 := n2_; have GE110 := n3_; clear n0_ n1_ n2_ n3_; clear hb hbox hg))
              have n0_ := Aside0.mk (blk_drew BK110.out)
              have n1_ := Aside0.mk (below_drew1 HB.out)
              clear BK110
              clear HB
              have BK110 := n0_
              have HB := n1_
              clear n0_ n1_
              refine start_ (n := 73) (S := fun w' => w'.cell? ⟨gb110, 0, none⟩ = some (.int .i64 a0_0) ∧ w'.cell? ⟨gb110, 1, none⟩ = some (.slice A0_1 l0_1.length c0_1) ∧ w'.cell? ⟨gb110, 2, none⟩ = some (.bool false) ∧ w'.cell? ⟨gb110, 3, none⟩ = some (.int .i64 a0_3) ∧ w'.cell? ⟨gb110, 4, none⟩ = some (.int .i64 a0_4) ∧ w'.cell? ⟨gb110, 5, none⟩ = some (.int .i64 a0_5) ∧ w'.cell? ⟨gb110, 6, none⟩ = some (.bool a0_6)) (ds := []) (bu 73 0) (by kernel_rfl) rfl rfl ⟨(blk_cell BK110.out 0).trans rfl, (blk_cell BK110.out 1).trans rfl, (blk_cell BK110.out 2).trans rfl, (blk_cell BK110.out 3).trans rfl, (blk_cell BK110.out 4).trans rfl, (blk_cell BK110.out 5).trans rfl, (blk_cell BK110.out 6).trans rfl⟩ (fun hHeld => ?_); refine with_tabW sender_Check.tab1 sender_Check.bits1 (fun HT_ HW_ => ?_)
              generalize w53.drew = w54 at BK110 HB hHeld ⊢
              refine pA 0 3 (bu 73 1) ?_ HT_ rfl rfl (.inl ⟨by rfl, ?_⟩) ?_ ?_ ?_; rotate_left; (focus intro w'; go_simp; with_reducible rfl); rotate_left; (focus simp only [pk]; rfl)
              refine tA 1 4 (bu 73 2) ?_ HT_ HW_ rfl rfl (.inl ⟨by rfl, ?_⟩) hHeld ?_ ?_ ?_; rotate_left; (focus rintro w' ⟨s0, s1, s2, s3, s4, s5, s6⟩; go_simp; with_reducible rfl); rotate_left; (focus simp only [pk]; rfl)
              refine pA 2 5 (bu 73 3) ?_ HT_ rfl rfl (.inl ⟨by rfl, ?_⟩) ?_ ?_ ?_; rotate_left; (focus intro w'; go_simp; with_reducible rfl); rotate_left; (focus simp only [pk]; rfl)
              refine pA 3 6 (bu 73 4) ?_ HT_ rfl rfl (.inl ⟨by rfl, ?_⟩) ?_ ?_ ?_; rotate_left; (focus intro w'; go_simp; with_reducible rfl); rotate_left; (focus simp only [pk]; rfl)
              refine pA 4 7 (bu 73 5) ?_ HT_ rfl rfl (.inl ⟨by rfl, ?_⟩) ?_ ?_ ?_; rotate_left; (focus intro w'; go_simp; with_reducible rfl); rotate_left; (focus simp only [pk]; rfl)
              refine tA 5 8 (bu 73 6) ?_ HT_ HW_ rfl rfl (.inl ⟨by rfl, ?_⟩) hHeld ?_ ?_ ?_; rotate_left; (focus rintro w' ⟨s0, s1, s2, s3, s4, s5, s6⟩; go_simp; with_reducible rfl); rotate_left; (focus simp only [pk]; rfl)
              refine pA 6 9 (bu 73 7) ?_ HT_ rfl rfl (.inl ⟨by rfl, ?_⟩) ?_ ?_ ?_; rotate_left; (focus intro w'; go_simp; with_reducible rfl); rotate_left; (focus simp only [pk]; rfl)
              refine pA 7 10 (bu 73 8) ?_ HT_ rfl rfl (.inl ⟨by rfl, ?_⟩) ?_ ?_ ?_; rotate_left; (focus intro w'; go_simp; with_reducible rfl); rotate_left; (focus simp only [pk]; rfl)
              refine pA 8 11 (bu 73 9) ?_ HT_ rfl rfl (.inl ⟨by rfl, ?_⟩) ?_ ?_ ?_; rotate_left; (focus intro w'; go_simp; with_reducible rfl); rotate_left; (focus simp only [pk]; rfl)
              refine pA 9 12 (bu 73 10) ?_ HT_ rfl rfl (.inl ⟨by rfl, ?_⟩) ?_ ?_ ?_; rotate_left; (focus intro w'; go_simp; with_reducible rfl); rotate_left; (focus simp only [pk]; rfl)
              refine tA 10 13 (bu 73 11) ?_ HT_ HW_ rfl rfl (.inl ⟨by rfl, ?_⟩) hHeld ?_ ?_ ?_; rotate_left; (focus rintro w' ⟨s0, s1, s2, s3, s4, s5, s6⟩; go_simp; with_reducible rfl); rotate_left; (focus simp only [pk]; rfl)
              refine pA 11 14 (bu 73 12) ?_ HT_ rfl rfl (.inl ⟨by rfl, ?_⟩) ?_ ?_ ?_; rotate_left; (focus intro w'; go_simp; with_reducible rfl); rotate_left; (focus simp only [pk]; rfl)
              refine pA 12 15 (bu 73 13) ?_ HT_ rfl rfl (.inl ⟨by rfl, ?_⟩) ?_ ?_ ?_; rotate_left; (focus intro w'; go_simp; with_reducible rfl); rotate_left; (focus simp only [pk]; rfl)
              refine pA 13 16 (bu 73 14) ?_ HT_ rfl rfl (.inl ⟨by rfl, ?_⟩) ?_ ?_ ?_; rotate_left; (focus intro w'; go_simp; with_reducible rfl); rotate_left; (focus simp only [pk]; rfl)
              refine pA 14 17 (bu 73 15) ?_ HT_ rfl rfl (.inl ⟨by rfl, ?_⟩) ?_ ?_ ?_; rotate_left; (focus intro w'; go_simp; with_reducible rfl); rotate_left; (focus simp only [pk]; rfl)
              refine pA 15 18 (bu 73 16) ?_ HT_ rfl rfl (.inl ⟨by rfl, ?_⟩) ?_ ?_ ?_; rotate_left; (focus intro w'; go_simp; with_reducible rfl); rotate_left; (focus simp only [pk]; rfl)
              refine tA 16 19 (bu 73 17) ?_ HT_ HW_ rfl rfl (.inl ⟨by rfl, ?_⟩) hHeld ?_ ?_ ?_; rotate_left; (focus rintro w' ⟨s0, s1, s2, s3, s4, s5, s6⟩; go_simp; with_reducible rfl); rotate_left; (focus simp only [pk]; rfl)
              refine pA 17 20 (bu 73 18) ?_ HT_ rfl rfl (.inl ⟨by rfl, ?_⟩) ?_ ?_ ?_; rotate_left; (focus intro w'; go_simp; with_reducible rfl); rotate_left; (focus simp only [pk]; rfl)
              refine pA 18 21 (bu 73 19) ?_ HT_ rfl rfl (.inl ⟨by rfl, ?_⟩) ?_ ?_ ?_; rotate_left; (focus intro w'; go_simp; with_reducible rfl); rotate_left; (focus simp only [pk]; rfl)
              refine pA 19 22 (bu 73 20) ?_ HT_ rfl rfl (.inl ⟨by rfl, ?_⟩) ?_ ?_ ?_; rotate_left; (focus intro w'; go_simp; with_reducible rfl); rotate_left; (focus simp only [pk]; rfl)
              refine pA 20 23 (bu 73 21) ?_ HT_ rfl rfl (.inl ⟨by rfl, ?_⟩) ?_ ?_ ?_; rotate_left; (focus intro w'; go_simp; with_reducible rfl); rotate_left; (focus simp only [pk]; rfl)
              refine pA 21 24 (bu 73 22) ?_ HT_ rfl rfl (.inl ⟨by rfl, ?_⟩) ?_ ?_ ?_; rotate_left; (focus intro w'; go_simp; with_reducible rfl); rotate_left; (focus simp only [pk]; rfl)
              refine tA 22 25 (bu 73 23) ?_ HT_ HW_ rfl rfl (.inl ⟨by rfl, ?_⟩) hHeld ?_ ?_ ?_; rotate_left; (focus rintro w' ⟨s0, s1, s2, s3, s4, s5, s6⟩; go_simp; with_reducible rfl); rotate_left; (focus simp only [pk]; rfl)
              refine pA 23 26 (bu 73 24) ?_ HT_ rfl rfl (.inl ⟨by rfl, ?_⟩) ?_ ?_ ?_; rotate_left; (focus intro w'; go_simp; with_reducible rfl); rotate_left; (focus simp only [pk]; rfl)
              refine pA 24 27 (bu 73 25) ?_ HT_ rfl rfl (.inl ⟨by rfl, ?_⟩) ?_ ?_ ?_; rotate_left; (focus intro w'; go_simp; with_reducible rfl); rotate_left; (focus simp only [pk]; rfl)
              refine pA 25 28 (bu 73 26) ?_ HT_ rfl rfl (.inl ⟨by rfl, ?_⟩) ?_ ?_ ?_; rotate_left; (focus intro w'; go_simp; with_reducible rfl); rotate_left; (focus simp only [pk]; rfl)
              refine pA 26 29 (bu 73 27) ?_ HT_ rfl rfl (.inl ⟨by rfl, ?_⟩) ?_ ?_ ?_; rotate_left; (focus intro w'; go_simp; with_reducible rfl); rotate_left; (focus simp only [pk]; rfl)
              refine tA 27 30 (bu 73 28) ?_ HT_ HW_ rfl rfl (.inl ⟨by rfl, ?_⟩) hHeld ?_ ?_ ?_; rotate_left; (focus rintro w' ⟨s0, s1, s2, s3, s4, s5, s6⟩; go_simp; with_reducible rfl); rotate_left; (focus simp only [pk]; rfl)
              refine pA 28 31 (bu 73 29) ?_ HT_ rfl rfl (.inl ⟨by rfl, ?_⟩) ?_ ?_ ?_; rotate_left; (focus intro w'; go_simp; with_reducible rfl); rotate_left; (focus simp only [pk]; rfl)
              refine pA 29 32 (bu 73 30) ?_ HT_ rfl rfl (.inl ⟨by rfl, ?_⟩) ?_ ?_ ?_; rotate_left; (focus intro w'; go_simp; with_reducible rfl); rotate_left; (focus simp only [pk]; rfl)
              refine pA 30 33 (bu 73 31) ?_ HT_ rfl rfl (.inl ⟨by rfl, ?_⟩) ?_ ?_ ?_; rotate_left; (focus intro w'; go_simp; with_reducible rfl); rotate_left; (focus simp only [pk]; rfl)
              refine pA 31 34 (bu 73 32) ?_ HT_ rfl rfl (.inl ⟨by rfl, ?_⟩) ?_ ?_ ?_; rotate_left; (focus intro w'; go_simp; with_reducible rfl); rotate_left; (focus simp only [pk]; rfl)
              refine tA 32 35 (bu 73 33) ?_ HT_ HW_ rfl rfl (.inl ⟨by rfl, ?_⟩) hHeld ?_ ?_ ?_; rotate_left; (focus rintro w' ⟨s0, s1, s2, s3, s4, s5, s6⟩; go_simp; with_reducible rfl); rotate_left; (focus simp only [pk]; rfl)
              refine pA 33 36 (bu 73 34) ?_ HT_ rfl rfl (.inl ⟨by rfl, ?_⟩) ?_ ?_ ?_; rotate_left; (focus intro w'; go_simp; with_reducible rfl); rotate_left; (focus simp only [pk]; rfl)
              refine pA 34 37 (bu 73 35) ?_ HT_ rfl rfl (.inl ⟨by rfl, ?_⟩) ?_ ?_ ?_; rotate_left; (focus intro w'; go_simp; with_reducible rfl); rotate_left; (focus simp only [pk]; rfl)
              refine pA 35 38 (bu 73 36) ?_ HT_ rfl rfl (.inl ⟨by rfl, ?_⟩) ?_ ?_ ?_; rotate_left; (focus intro w'; go_simp; with_reducible rfl); rotate_left; (focus simp only [pk]; rfl)
              refine tA 36 39 (bu 73 37) ?_ HT_ HW_ rfl rfl (.inl ⟨by rfl, ?_⟩) hHeld ?_ ?_ ?_; rotate_left; (focus rintro w' ⟨s0, s1, s2, s3, s4, s5, s6⟩; go_simp; with_reducible rfl); rotate_left; (focus simp only [pk]; rfl)
              refine pA 37 40 (bu 73 38) ?_ HT_ rfl rfl (.inl ⟨by rfl, ?_⟩) ?_ ?_ ?_; rotate_left; (focus intro w'; go_simp; with_reducible rfl); rotate_left; (focus simp only [pk]; rfl)
              refine pA 38 41 (bu 73 39) ?_ HT_ rfl rfl (.inl ⟨by rfl, ?_⟩) ?_ ?_ ?_; rotate_left; (focus intro w'; go_simp; with_reducible rfl); rotate_left; (focus simp only [pk]; rfl)
              refine pA 39 42 (bu 73 40) ?_ HT_ rfl rfl (.inl ⟨by rfl, ?_⟩) ?_ ?_ ?_; rotate_left; (focus intro w'; go_simp; with_reducible rfl); rotate_left; (focus simp only [pk]; rfl)
              refine tA 40 43 (bu 73 41) ?_ HT_ HW_ rfl rfl (.inl ⟨by rfl, ?_⟩) hHeld ?_ ?_ ?_; rotate_left; (focus rintro w' ⟨s0, s1, s2, s3, s4, s5, s6⟩; go_simp; with_reducible rfl); rotate_left; (focus simp only [pk]; rfl)
              refine pA 41 44 (bu 73 42) ?_ HT_ rfl rfl (.inl ⟨by rfl, ?_⟩) ?_ ?_ ?_; rotate_left; (focus intro w'; go_simp; with_reducible rfl); rotate_left; (focus simp only [pk]; rfl)
              refine pA 42 45 (bu 73 43) ?_ HT_ rfl rfl (.inl ⟨by rfl, ?_⟩) ?_ ?_ ?_; rotate_left; (focus intro w'; go_simp; with_reducible rfl); rotate_left; (focus simp only [pk]; rfl)
              refine pA 43 46 (bu 73 44) ?_ HT_ rfl rfl (.inl ⟨by rfl, ?_⟩) ?_ ?_ ?_; rotate_left; (focus intro w'; go_simp; with_reducible rfl); rotate_left; (focus simp only [pk]; rfl)
              refine pA 44 47 (bu 73 45) ?_ HT_ rfl rfl (.inl ⟨by rfl, ?_⟩) ?_ ?_ ?_; rotate_left; (focus intro w'; go_simp; with_reducible rfl); rotate_left; (focus simp only [pk]; rfl)
              refine pA 45 48 (bu 73 46) ?_ HT_ rfl rfl (.inl ⟨by rfl, ?_⟩) ?_ ?_ ?_; rotate_left; (focus intro w'; go_simp; with_reducible rfl); rotate_left; (focus simp only [pk]; rfl)
              refine pA 46 49 (bu 73 47) ?_ HT_ rfl rfl (.inl ⟨by rfl, ?_⟩) ?_ ?_ ?_; rotate_left; (focus intro w'; go_simp; with_reducible rfl); rotate_left; (focus simp only [pk]; rfl)
              refine tA 47 50 (bu 73 48) ?_ HT_ HW_ rfl rfl (.inl ⟨by rfl, ?_⟩) hHeld ?_ ?_ ?_; rotate_left; (focus rintro w' ⟨s0, s1, s2, s3, s4, s5, s6⟩; go_simp; with_reducible rfl); rotate_left; (focus simp only [pk]; rfl)
              refine pA 48 51 (bu 73 49) ?_ HT_ rfl rfl (.inl ⟨by rfl, ?_⟩) ?_ ?_ ?_; rotate_left; (focus intro w'; go_simp; with_reducible rfl); rotate_left; (focus simp only [pk]; rfl)
              refine pA 49 52 (bu 73 50) ?_ HT_ rfl rfl (.inl ⟨by rfl, ?_⟩) ?_ ?_ ?_; rotate_left; (focus intro w'; go_simp; with_reducible rfl); rotate_left; (focus simp only [pk]; rfl)
              refine pA 50 53 (bu 73 51) ?_ HT_ rfl rfl (.inl ⟨by rfl, ?_⟩) ?_ ?_ ?_; rotate_left; (focus intro w'; go_simp; with_reducible rfl); rotate_left; (focus simp only [pk]; rfl)
              refine pA 51 54 (bu 73 52) ?_ HT_ rfl rfl (.inl ⟨by rfl, ?_⟩) ?_ ?_ ?_; rotate_left; (focus intro w'; go_simp; with_reducible rfl); rotate_left; (focus simp only [pk]; rfl)
              refine pA 53 56 (bm 73 0x2fffffffffffff) ?_ HT_ rfl rfl (.inl ⟨by rfl, ?_⟩) ?_ ?_ ?_; rotate_left; (focus intro w'; go_simp; with_reducible rfl); rotate_left; (focus simp only [pk]; rfl)
              refine tA 52 55 (bu 73 54) ?_ HT_ HW_ rfl rfl (.inl ⟨by rfl, ?_⟩) hHeld ?_ ?_ ?_; rotate_left; (focus rintro w' ⟨s0, s1, s2, s3, s4, s5, s6⟩; go_simp; with_reducible rfl); rotate_left; (focus simp only [pk]; rfl)
              refine tA 54 57 (bu 73 55) ?_ HT_ HW_ rfl rfl (.inl ⟨by rfl, ?_⟩) hHeld ?_ ?_ ?_; rotate_left; (focus rintro w' ⟨s0, s1, s2, s3, s4, s5, s6⟩; go_simp; with_reducible rfl); rotate_left; (focus simp only [pk]; rfl)
              refine pA 55 58 (bu 73 56) ?_ HT_ rfl rfl (.inl ⟨by rfl, ?_⟩) ?_ ?_ ?_; rotate_left; (focus intro w'; go_simp; with_reducible rfl); rotate_left; (focus simp only [pk]; rfl)
              refine one_ (i := 56) (N := some 59) (bu 73 57) rfl rfl (one_of HT_.out (by kernel_rfl)) (by decide) (fun K hK => ?_)
              refine goes_ Try.func34 (by kernel_rfl) rfl #[.int .i64 (l0_1.length : Int)] (by rfl) rfl rfl (by (try simp only [List.map_toArray, List.map_cons, List.map_nil]); first | done | rfl | (simp only [List.length_drop, List.length_take]; rfl) | (go_simp; done) | (go_simp; rfl)) ?_
              with_reducible refine (sender_count.calls (l0_1.length : Int) t113 _ A44.out).mono ?_
              rintro e w' ⟨rfl, ⟨nd, rfl⟩⟩
              refine ⟨_, rfl, ?_⟩
              refine hK.out _ _ ⟨(blk_cell BK110.out 0).trans rfl, (blk_cell BK110.out 1).trans rfl, (blk_cell BK110.out 2).trans rfl, (blk_cell BK110.out 3).trans rfl, (blk_cell BK110.out 4).trans rfl, (blk_cell BK110.out 5).trans rfl, (blk_cell BK110.out 6).trans rfl⟩ (fun hHeld => ?_)
              clear hK K
              refine norm_ (a' := ?_) ?_ ?_
              rotate_left
              ·show Act.put _ (some 59) _ = _
               simp only [Act.put, List.setIfInBounds_toArray, List.set_cons_zero, List.set_cons_succ, i64_w, i32_w]
               rfl
              refine pA 57 60 (bu 73 58) ?_ HT_ rfl rfl (.inl ⟨by rfl, ?_⟩) ?_ ?_ ?_; rotate_left; (focus intro w'; go_simp; with_reducible rfl); rotate_left; (focus simp only [pk]; rfl)
              refine pA 58 61 (bu 73 59) ?_ HT_ rfl rfl (.inl ⟨by rfl, ?_⟩) ?_ ?_ ?_; rotate_left; (focus intro w'; go_simp; with_reducible rfl); rotate_left; (focus simp only [pk]; rfl)
              refine pA 59 62 (bu 73 60) ?_ HT_ rfl rfl (.inl ⟨by rfl, ?_⟩) ?_ ?_ ?_; rotate_left; (focus intro w'; go_simp; with_reducible rfl); rotate_left; (focus simp only [pk]; rfl)
              refine pA 60 63 (bu 73 61) ?_ HT_ rfl rfl (.inl ⟨by rfl, ?_⟩) ?_ ?_ ?_; rotate_left; (focus intro w'; go_simp; with_reducible rfl); rotate_left; (focus simp only [pk]; rfl)
              refine pA 62 65 (bm 73 0x5fffffffffffffff) ?_ HT_ rfl rfl (.inl ⟨by rfl, ?_⟩) ?_ ?_ ?_; rotate_left; (focus intro w'; go_simp; with_reducible rfl); rotate_left; (focus simp only [pk]; rfl)
              refine tA 61 64 (bu 73 63) ?_ HT_ HW_ rfl rfl (.inl ⟨by rfl, ?_⟩) hHeld ?_ ?_ ?_; rotate_left; (focus rintro w' ⟨s0, s1, s2, s3, s4, s5, s6⟩; go_simp; with_reducible rfl); rotate_left; (focus simp only [pk]; rfl)
              refine tA 63 66 (bu 73 64) ?_ HT_ HW_ rfl rfl (.inl ⟨by rfl, ?_⟩) hHeld ?_ ?_ ?_; rotate_left; (focus rintro w' ⟨s0, s1, s2, s3, s4, s5, s6⟩; go_simp; with_reducible rfl); rotate_left; (focus simp only [pk]; rfl)
              refine pA 64 67 (bu 73 65) ?_ HT_ rfl rfl (.inl ⟨by rfl, ?_⟩) ?_ ?_ ?_; rotate_left; (focus intro w'; go_simp; with_reducible rfl); rotate_left; (focus simp only [pk]; rfl)
              refine pA 65 68 (bu 73 66) ?_ HT_ rfl rfl (.inl ⟨by rfl, ?_⟩) ?_ ?_ ?_; rotate_left; (focus intro w'; go_simp; with_reducible rfl); rotate_left; (focus simp only [pk]; rfl)
              refine pA 66 69 (bu 73 67) ?_ HT_ rfl rfl (.inl ⟨by rfl, ?_⟩) ?_ ?_ ?_; rotate_left; (focus intro w'; go_simp; with_reducible rfl); rotate_left; (focus simp only [pk]; rfl)
              refine pA 67 70 (bu 73 68) ?_ HT_ rfl rfl (.inl ⟨by rfl, ?_⟩) ?_ ?_ ?_; rotate_left; (focus intro w'; go_simp; with_reducible rfl); rotate_left; (focus simp only [pk]; rfl)
              refine tA 68 71 (bu 73 69) ?_ HT_ HW_ rfl rfl (.inl ⟨by rfl, ?_⟩) hHeld ?_ ?_ ?_; rotate_left; (focus rintro w' ⟨s0, s1, s2, s3, s4, s5, s6⟩; go_simp; with_reducible rfl); rotate_left; (focus simp only [pk]; rfl)
              refine tA 69 72 (bu 73 70) ?_ HT_ HW_ rfl rfl (.inl ⟨by rfl, ?_⟩) hHeld ?_ ?_ ?_; rotate_left; (focus rintro w' ⟨s0, s1, s2, s3, s4, s5, s6⟩; go_simp; with_reducible rfl); rotate_left; (focus simp only [pk]; rfl)
              refine one_ (i := 70) (N := some 73) (bu 73 71) rfl rfl (one_of HT_.out (by kernel_rfl)) (by decide) (fun K hK => ?_)
              refine goes_ Try.func32 (by kernel_rfl) rfl #[.agg #[.int .i64 a0_0, .slice A0_1 l0_1.length c0_1, .bool false, .int .i64 a0_3, .int .i64 a0_4, .int .i64 a0_5, .bool a0_6]] (by rfl) rfl rfl (by (try simp only [List.map_toArray, List.map_cons, List.map_nil]); first | done | rfl | (simp only [List.length_drop, List.length_take]; rfl) | (go_simp; done) | (go_simp; rfl)) ?_
              with_reducible refine (sender_top.calls a0_0 _ _ l0_1 false a0_3 a0_4 a0_5 a0_6 t114 _ ?side1 ?side2 A51.out).mono ?_
              (case side1 => repeat (first | exact (Kd.C_below HR0_1.out (by repeat (first | (with_reducible first | exact HB.out | apply b1 | apply b2 | apply b3 | refine below_set ?_ GE110.out) | exact HB.out))) | (with_reducible refine Kd.C_alloc ?_ _) | (with_reducible refine Kd.C_drewN ?_ _) | (with_reducible refine Kd.C_drew ?_)))
              (case side2 => exact HC0_1.out)
              rintro e w55 ⟨rfl, hb⟩
              refine ⟨_, rfl, ?_⟩
              have n0_ := Aside0.mk (bK BK110.out hb)
              have n1_ := Aside0.mk (below_step (by repeat (first | (with_reducible first | exact HB.out | apply b1 | apply b2 | apply b3 | refine below_set ?_ GE110.out) | exact HB.out)) hb)
              clear BK110
              clear HB
              have BK110 := n0_
              have HB := n1_
              clear n0_ n1_
              (try clear hb)
              (try clear hb2)
              (try clear hk)
              (try clear hi)
              refine hK.out _ _ ⟨(blk_cell BK110.out 0).trans rfl, (blk_cell BK110.out 1).trans rfl, (blk_cell BK110.out 2).trans rfl, (blk_cell BK110.out 3).trans rfl, (blk_cell BK110.out 4).trans rfl, (blk_cell BK110.out 5).trans rfl, (blk_cell BK110.out 6).trans rfl⟩ (fun hHeld => ?_)
              clear hK K
              refine norm_ (a' := ?_) ?_ ?_
              rotate_left
              ·show Act.put _ (some 73) _ = _
               simp only [Act.put, List.setIfInBounds_toArray, List.set_cons_zero, List.set_cons_succ, i64_w, i32_w]
               rfl
              refine pA 71 74 (bu 73 72) ?_ HT_ rfl rfl (.inl ⟨by rfl, ?_⟩) ?_ ?_ ?_; rotate_left; (focus intro w'; go_simp; with_reducible rfl); rotate_left; (focus simp only [pk]; rfl)
              refine pA 72 75 (bu 73 73) ?_ HT_ rfl rfl (.inl ⟨by rfl, ?_⟩) ?_ ?_ ?_; rotate_left; (focus intro w'; go_simp; with_reducible rfl); rotate_left; (focus simp only [pk]; rfl)
              refine done_ (done_of HT_.out (by kernel_rfl)) ?_
              try go_wp2
              go_ret
              exact ⟨by first | rfl | (simp [errW_none, errW_some] <;> rfl) | (simp [*, errW_none, errW_some] <;> rfl), by repeat (first | (with_reducible first | exact HB.out | apply b1 | apply b2 | apply b3 | refine below_set ?_ GE110.out) | exact HB.out)⟩
             ·rw [if_neg c52] at H
              have c52b0 : decide (t114 < a0_4) = false := decide_eq_false c52
              clear c52
              obtain rfl := Option.some.inj H
              go_enter Try.func18, Try.ntmps18
              try go_wp2_with (first | ((with_reducible refine gate_dst (N := 1) rfl ?_); (try (refine gate_guard (by rfl) ?_; dsimp only)); refine box_event ?hg (N := 1) ?hd (cs := #[.int .i64 a0_0, .slice A0_1 l0_1.length c0_1, .bool false, .int .i64 a0_3, .int .i64 a0_4, .int .i64 a0_5, .bool a0_6]) (t := 24) ?hr ?_; (case hd => rfl); (case hg => rfl); (case hr => first | (go_simp; done) | (go_simp; rfl)); intro gb110 hg w56 hbox hb; have n0_ := Aside0.mk (below_step (by first | with_reducible exact HB.out | exact sB HB.out) hb); have n1_ := Aside0.mk (hbox); have n2_ := Aside0.mk ((by rw [hg]; exact (below_size (by first | with_reducible exact HB.out | exact sB HB.out)) : w.heap.size ≤ gb110)); have n3_ := Aside0.mk ((by rw [hg]; exact (below_size (by first | with_reducible exact HB.out | exact sB HB.out)) : w.heap.size ≤ gb110)); clear HB; have HB := n0_; have BK110 := n1_; have GW110 := n2_; have GE110 := n3_; clear n0_ n1_ n2_ n3_; clear hb hbox hg))
              have n0_ := Aside0.mk (blk_drew BK110.out)
              have n1_ := Aside0.mk (below_drew1 HB.out)
              clear BK110
              clear HB
              have BK110 := n0_
              have HB := n1_
              clear n0_ n1_
              refine start_ (n := 73) (S := fun w' => w'.cell? ⟨gb110, 0, none⟩ = some (.int .i64 a0_0) ∧ w'.cell? ⟨gb110, 1, none⟩ = some (.slice A0_1 l0_1.length c0_1) ∧ w'.cell? ⟨gb110, 2, none⟩ = some (.bool false) ∧ w'.cell? ⟨gb110, 3, none⟩ = some (.int .i64 a0_3) ∧ w'.cell? ⟨gb110, 4, none⟩ = some (.int .i64 a0_4) ∧ w'.cell? ⟨gb110, 5, none⟩ = some (.int .i64 a0_5) ∧ w'.cell? ⟨gb110, 6, none⟩ = some (.bool a0_6)) (ds := []) (bu 73 0) (by kernel_rfl) rfl rfl ⟨(blk_cell BK110.out 0).trans rfl, (blk_cell BK110.out 1).trans rfl, (blk_cell BK110.out 2).trans rfl, (blk_cell BK110.out 3).trans rfl, (blk_cell BK110.out 4).trans rfl, (blk_cell BK110.out 5).trans rfl, (blk_cell BK110.out 6).trans rfl⟩ (fun hHeld => ?_); refine with_tabW sender_Check.tab1 sender_Check.bits1 (fun HT_ HW_ => ?_)
              generalize w56.drew = w57 at BK110 HB hHeld ⊢
              refine pA 0 3 (bu 73 1) ?_ HT_ rfl rfl (.inl ⟨by rfl, ?_⟩) ?_ ?_ ?_; rotate_left; (focus intro w'; go_simp; with_reducible rfl); rotate_left; (focus simp only [pk]; rfl)
              refine tA 1 4 (bu 73 2) ?_ HT_ HW_ rfl rfl (.inl ⟨by rfl, ?_⟩) hHeld ?_ ?_ ?_; rotate_left; (focus rintro w' ⟨s0, s1, s2, s3, s4, s5, s6⟩; go_simp; with_reducible rfl); rotate_left; (focus simp only [pk]; rfl)
              refine pA 2 5 (bu 73 3) ?_ HT_ rfl rfl (.inl ⟨by rfl, ?_⟩) ?_ ?_ ?_; rotate_left; (focus intro w'; go_simp; with_reducible rfl); rotate_left; (focus simp only [pk]; rfl)
              refine pA 3 6 (bu 73 4) ?_ HT_ rfl rfl (.inl ⟨by rfl, ?_⟩) ?_ ?_ ?_; rotate_left; (focus intro w'; go_simp; with_reducible rfl); rotate_left; (focus simp only [pk]; rfl)
              refine pA 4 7 (bu 73 5) ?_ HT_ rfl rfl (.inl ⟨by rfl, ?_⟩) ?_ ?_ ?_; rotate_left; (focus intro w'; go_simp; with_reducible rfl); rotate_left; (focus simp only [pk]; rfl)
              refine tA 5 8 (bu 73 6) ?_ HT_ HW_ rfl rfl (.inl ⟨by rfl, ?_⟩) hHeld ?_ ?_ ?_; rotate_left; (focus rintro w' ⟨s0, s1, s2, s3, s4, s5, s6⟩; go_simp; with_reducible rfl); rotate_left; (focus simp only [pk]; rfl)
              refine pA 6 9 (bu 73 7) ?_ HT_ rfl rfl (.inl ⟨by rfl, ?_⟩) ?_ ?_ ?_; rotate_left; (focus intro w'; go_simp; with_reducible rfl); rotate_left; (focus simp only [pk]; rfl)
              refine pA 7 10 (bu 73 8) ?_ HT_ rfl rfl (.inl ⟨by rfl, ?_⟩) ?_ ?_ ?_; rotate_left; (focus intro w'; go_simp; with_reducible rfl); rotate_left; (focus simp only [pk]; rfl)
              refine pA 8 11 (bu 73 9) ?_ HT_ rfl rfl (.inl ⟨by rfl, ?_⟩) ?_ ?_ ?_; rotate_left; (focus intro w'; go_simp; with_reducible rfl); rotate_left; (focus simp only [pk]; rfl)
              refine pA 9 12 (bu 73 10) ?_ HT_ rfl rfl (.inl ⟨by rfl, ?_⟩) ?_ ?_ ?_; rotate_left; (focus intro w'; go_simp; with_reducible rfl); rotate_left; (focus simp only [pk]; rfl)
              refine tA 10 13 (bu 73 11) ?_ HT_ HW_ rfl rfl (.inl ⟨by rfl, ?_⟩) hHeld ?_ ?_ ?_; rotate_left; (focus rintro w' ⟨s0, s1, s2, s3, s4, s5, s6⟩; go_simp; with_reducible rfl); rotate_left; (focus simp only [pk]; rfl)
              refine pA 11 14 (bu 73 12) ?_ HT_ rfl rfl (.inl ⟨by rfl, ?_⟩) ?_ ?_ ?_; rotate_left; (focus intro w'; go_simp; with_reducible rfl); rotate_left; (focus simp only [pk]; rfl)
              refine pA 12 15 (bu 73 13) ?_ HT_ rfl rfl (.inl ⟨by rfl, ?_⟩) ?_ ?_ ?_; rotate_left; (focus intro w'; go_simp; with_reducible rfl); rotate_left; (focus simp only [pk]; rfl)
              refine pA 13 16 (bu 73 14) ?_ HT_ rfl rfl (.inl ⟨by rfl, ?_⟩) ?_ ?_ ?_; rotate_left; (focus intro w'; go_simp; with_reducible rfl); rotate_left; (focus simp only [pk]; rfl)
              refine pA 14 17 (bu 73 15) ?_ HT_ rfl rfl (.inl ⟨by rfl, ?_⟩) ?_ ?_ ?_; rotate_left; (focus intro w'; go_simp; with_reducible rfl); rotate_left; (focus simp only [pk]; rfl)
              refine pA 15 18 (bu 73 16) ?_ HT_ rfl rfl (.inl ⟨by rfl, ?_⟩) ?_ ?_ ?_; rotate_left; (focus intro w'; go_simp; with_reducible rfl); rotate_left; (focus simp only [pk]; rfl)
              refine tA 16 19 (bu 73 17) ?_ HT_ HW_ rfl rfl (.inl ⟨by rfl, ?_⟩) hHeld ?_ ?_ ?_; rotate_left; (focus rintro w' ⟨s0, s1, s2, s3, s4, s5, s6⟩; go_simp; with_reducible rfl); rotate_left; (focus simp only [pk]; rfl)
              refine pA 17 20 (bu 73 18) ?_ HT_ rfl rfl (.inl ⟨by rfl, ?_⟩) ?_ ?_ ?_; rotate_left; (focus intro w'; go_simp; with_reducible rfl); rotate_left; (focus simp only [pk]; rfl)
              refine pA 18 21 (bu 73 19) ?_ HT_ rfl rfl (.inl ⟨by rfl, ?_⟩) ?_ ?_ ?_; rotate_left; (focus intro w'; go_simp; with_reducible rfl); rotate_left; (focus simp only [pk]; rfl)
              refine pA 19 22 (bu 73 20) ?_ HT_ rfl rfl (.inl ⟨by rfl, ?_⟩) ?_ ?_ ?_; rotate_left; (focus intro w'; go_simp; with_reducible rfl); rotate_left; (focus simp only [pk]; rfl)
              refine pA 20 23 (bu 73 21) ?_ HT_ rfl rfl (.inl ⟨by rfl, ?_⟩) ?_ ?_ ?_; rotate_left; (focus intro w'; go_simp; with_reducible rfl); rotate_left; (focus simp only [pk]; rfl)
              refine pA 21 24 (bu 73 22) ?_ HT_ rfl rfl (.inl ⟨by rfl, ?_⟩) ?_ ?_ ?_; rotate_left; (focus intro w'; go_simp; with_reducible rfl); rotate_left; (focus simp only [pk]; rfl)
              refine tA 22 25 (bu 73 23) ?_ HT_ HW_ rfl rfl (.inl ⟨by rfl, ?_⟩) hHeld ?_ ?_ ?_; rotate_left; (focus rintro w' ⟨s0, s1, s2, s3, s4, s5, s6⟩; go_simp; with_reducible rfl); rotate_left; (focus simp only [pk]; rfl)
              refine pA 23 26 (bu 73 24) ?_ HT_ rfl rfl (.inl ⟨by rfl, ?_⟩) ?_ ?_ ?_; rotate_left; (focus intro w'; go_simp; with_reducible rfl); rotate_left; (focus simp only [pk]; rfl)
              refine pA 24 27 (bu 73 25) ?_ HT_ rfl rfl (.inl ⟨by rfl, ?_⟩) ?_ ?_ ?_; rotate_left; (focus intro w'; go_simp; with_reducible rfl); rotate_left; (focus simp only [pk]; rfl)
              refine pA 25 28 (bu 73 26) ?_ HT_ rfl rfl (.inl ⟨by rfl, ?_⟩) ?_ ?_ ?_; rotate_left; (focus intro w'; go_simp; with_reducible rfl); rotate_left; (focus simp only [pk]; rfl)
              refine pA 26 29 (bu 73 27) ?_ HT_ rfl rfl (.inl ⟨by rfl, ?_⟩) ?_ ?_ ?_; rotate_left; (focus intro w'; go_simp; with_reducible rfl); rotate_left; (focus simp only [pk]; rfl)
              refine tA 27 30 (bu 73 28) ?_ HT_ HW_ rfl rfl (.inl ⟨by rfl, ?_⟩) hHeld ?_ ?_ ?_; rotate_left; (focus rintro w' ⟨s0, s1, s2, s3, s4, s5, s6⟩; go_simp; with_reducible rfl); rotate_left; (focus simp only [pk]; rfl)
              refine pA 28 31 (bu 73 29) ?_ HT_ rfl rfl (.inl ⟨by rfl, ?_⟩) ?_ ?_ ?_; rotate_left; (focus intro w'; go_simp; with_reducible rfl); rotate_left; (focus simp only [pk]; rfl)
              refine pA 29 32 (bu 73 30) ?_ HT_ rfl rfl (.inl ⟨by rfl, ?_⟩) ?_ ?_ ?_; rotate_left; (focus intro w'; go_simp; with_reducible rfl); rotate_left; (focus simp only [pk]; rfl)
              refine pA 30 33 (bu 73 31) ?_ HT_ rfl rfl (.inl ⟨by rfl, ?_⟩) ?_ ?_ ?_; rotate_left; (focus intro w'; go_simp; with_reducible rfl); rotate_left; (focus simp only [pk]; rfl)
              refine pA 31 34 (bu 73 32) ?_ HT_ rfl rfl (.inl ⟨by rfl, ?_⟩) ?_ ?_ ?_; rotate_left; (focus intro w'; go_simp; with_reducible rfl); rotate_left; (focus simp only [pk]; rfl)
              refine tA 32 35 (bu 73 33) ?_ HT_ HW_ rfl rfl (.inl ⟨by rfl, ?_⟩) hHeld ?_ ?_ ?_; rotate_left; (focus rintro w' ⟨s0, s1, s2, s3, s4, s5, s6⟩; go_simp; with_reducible rfl); rotate_left; (focus simp only [pk]; rfl)
              refine pA 33 36 (bu 73 34) ?_ HT_ rfl rfl (.inl ⟨by rfl, ?_⟩) ?_ ?_ ?_; rotate_left; (focus intro w'; go_simp; with_reducible rfl); rotate_left; (focus simp only [pk]; rfl)
              refine pA 34 37 (bu 73 35) ?_ HT_ rfl rfl (.inl ⟨by rfl, ?_⟩) ?_ ?_ ?_; rotate_left; (focus intro w'; go_simp; with_reducible rfl); rotate_left; (focus simp only [pk]; rfl)
              refine pA 35 38 (bu 73 36) ?_ HT_ rfl rfl (.inl ⟨by rfl, ?_⟩) ?_ ?_ ?_; rotate_left; (focus intro w'; go_simp; with_reducible rfl); rotate_left; (focus simp only [pk]; rfl)
              refine tA 36 39 (bu 73 37) ?_ HT_ HW_ rfl rfl (.inl ⟨by rfl, ?_⟩) hHeld ?_ ?_ ?_; rotate_left; (focus rintro w' ⟨s0, s1, s2, s3, s4, s5, s6⟩; go_simp; with_reducible rfl); rotate_left; (focus simp only [pk]; rfl)
              refine pA 37 40 (bu 73 38) ?_ HT_ rfl rfl (.inl ⟨by rfl, ?_⟩) ?_ ?_ ?_; rotate_left; (focus intro w'; go_simp; with_reducible rfl); rotate_left; (focus simp only [pk]; rfl)
              refine pA 38 41 (bu 73 39) ?_ HT_ rfl rfl (.inl ⟨by rfl, ?_⟩) ?_ ?_ ?_; rotate_left; (focus intro w'; go_simp; with_reducible rfl); rotate_left; (focus simp only [pk]; rfl)
              refine pA 39 42 (bu 73 40) ?_ HT_ rfl rfl (.inl ⟨by rfl, ?_⟩) ?_ ?_ ?_; rotate_left; (focus intro w'; go_simp; with_reducible rfl); rotate_left; (focus simp only [pk]; rfl)
              refine tA 40 43 (bu 73 41) ?_ HT_ HW_ rfl rfl (.inl ⟨by rfl, ?_⟩) hHeld ?_ ?_ ?_; rotate_left; (focus rintro w' ⟨s0, s1, s2, s3, s4, s5, s6⟩; go_simp; with_reducible rfl); rotate_left; (focus simp only [pk]; rfl)
              refine pA 41 44 (bu 73 42) ?_ HT_ rfl rfl (.inl ⟨by rfl, ?_⟩) ?_ ?_ ?_; rotate_left; (focus intro w'; go_simp; with_reducible rfl); rotate_left; (focus simp only [pk]; rfl)
              refine pA 42 45 (bu 73 43) ?_ HT_ rfl rfl (.inl ⟨by rfl, ?_⟩) ?_ ?_ ?_; rotate_left; (focus intro w'; go_simp; with_reducible rfl); rotate_left; (focus simp only [pk]; rfl)
              refine pA 43 46 (bu 73 44) ?_ HT_ rfl rfl (.inl ⟨by rfl, ?_⟩) ?_ ?_ ?_; rotate_left; (focus intro w'; go_simp; with_reducible rfl); rotate_left; (focus simp only [pk]; rfl)
              refine pA 44 47 (bu 73 45) ?_ HT_ rfl rfl (.inl ⟨by rfl, ?_⟩) ?_ ?_ ?_; rotate_left; (focus intro w'; go_simp; with_reducible rfl); rotate_left; (focus simp only [pk]; rfl)
              refine pA 45 48 (bu 73 46) ?_ HT_ rfl rfl (.inl ⟨by rfl, ?_⟩) ?_ ?_ ?_; rotate_left; (focus intro w'; go_simp; with_reducible rfl); rotate_left; (focus simp only [pk]; rfl)
              refine pA 46 49 (bu 73 47) ?_ HT_ rfl rfl (.inl ⟨by rfl, ?_⟩) ?_ ?_ ?_; rotate_left; (focus intro w'; go_simp; with_reducible rfl); rotate_left; (focus simp only [pk]; rfl)
              refine tA 47 50 (bu 73 48) ?_ HT_ HW_ rfl rfl (.inl ⟨by rfl, ?_⟩) hHeld ?_ ?_ ?_; rotate_left; (focus rintro w' ⟨s0, s1, s2, s3, s4, s5, s6⟩; go_simp; with_reducible rfl); rotate_left; (focus simp only [pk]; rfl)
              refine pA 48 51 (bu 73 49) ?_ HT_ rfl rfl (.inl ⟨by rfl, ?_⟩) ?_ ?_ ?_; rotate_left; (focus intro w'; go_simp; with_reducible rfl); rotate_left; (focus simp only [pk]; rfl)
              refine pA 49 52 (bu 73 50) ?_ HT_ rfl rfl (.inl ⟨by rfl, ?_⟩) ?_ ?_ ?_; rotate_left; (focus intro w'; go_simp; with_reducible rfl); rotate_left; (focus simp only [pk]; rfl)
              refine pA 50 53 (bu 73 51) ?_ HT_ rfl rfl (.inl ⟨by rfl, ?_⟩) ?_ ?_ ?_; rotate_left; (focus intro w'; go_simp; with_reducible rfl); rotate_left; (focus simp only [pk]; rfl)
              refine pA 51 54 (bu 73 52) ?_ HT_ rfl rfl (.inl ⟨by rfl, ?_⟩) ?_ ?_ ?_; rotate_left; (focus intro w'; go_simp; with_reducible rfl); rotate_left; (focus simp only [pk]; rfl)
              refine pA 53 56 (bm 73 0x2fffffffffffff) ?_ HT_ rfl rfl (.inl ⟨by rfl, ?_⟩) ?_ ?_ ?_; rotate_left; (focus intro w'; go_simp; with_reducible rfl); rotate_left; (focus simp only [pk]; rfl)
              refine tA 52 55 (bu 73 54) ?_ HT_ HW_ rfl rfl (.inl ⟨by rfl, ?_⟩) hHeld ?_ ?_ ?_; rotate_left; (focus rintro w' ⟨s0, s1, s2, s3, s4, s5, s6⟩; go_simp; with_reducible rfl); rotate_left; (focus simp only [pk]; rfl)
              refine tA 54 57 (bu 73 55) ?_ HT_ HW_ rfl rfl (.inl ⟨by rfl, ?_⟩) hHeld ?_ ?_ ?_; rotate_left; (focus rintro w' ⟨s0, s1, s2, s3, s4, s5, s6⟩; go_simp; with_reducible rfl); rotate_left; (focus simp only [pk]; rfl)
              refine pA 55 58 (bu 73 56) ?_ HT_ rfl rfl (.inl ⟨by rfl, ?_⟩) ?_ ?_ ?_; rotate_left; (focus intro w'; go_simp; with_reducible rfl); rotate_left; (focus simp only [pk]; rfl)
              refine one_ (i := 56) (N := some 59) (bu 73 57) rfl rfl (one_of HT_.out (by kernel_rfl)) (by decide) (fun K hK => ?_)
              refine goes_ Try.func34 (by kernel_rfl) rfl #[.int .i64 (l0_1.length : Int)] (by rfl) rfl rfl (by (try simp only [List.map_toArray, List.map_cons, List.map_nil]); first | done | rfl | (simp only [List.length_drop, List.length_take]; rfl) | (go_simp; done) | (go_simp; rfl)) ?_
              with_reducible refine (sender_count.calls (l0_1.length : Int) t113 _ A44.out).mono ?_
              rintro e w' ⟨rfl, ⟨nd, rfl⟩⟩
              refine ⟨_, rfl, ?_⟩
              refine hK.out _ _ ⟨(blk_cell BK110.out 0).trans rfl, (blk_cell BK110.out 1).trans rfl, (blk_cell BK110.out 2).trans rfl, (blk_cell BK110.out 3).trans rfl, (blk_cell BK110.out 4).trans rfl, (blk_cell BK110.out 5).trans rfl, (blk_cell BK110.out 6).trans rfl⟩ (fun hHeld => ?_)
              clear hK K
              refine norm_ (a' := ?_) ?_ ?_
              rotate_left
              ·show Act.put _ (some 59) _ = _
               simp only [Act.put, List.setIfInBounds_toArray, List.set_cons_zero, List.set_cons_succ, i64_w, i32_w]
               rfl
              refine pA 57 60 (bu 73 58) ?_ HT_ rfl rfl (.inl ⟨by rfl, ?_⟩) ?_ ?_ ?_; rotate_left; (focus intro w'; go_simp; with_reducible rfl); rotate_left; (focus simp only [pk]; rfl)
              refine pA 58 61 (bu 73 59) ?_ HT_ rfl rfl (.inl ⟨by rfl, ?_⟩) ?_ ?_ ?_; rotate_left; (focus intro w'; go_simp; with_reducible rfl); rotate_left; (focus simp only [pk]; rfl)
              refine pA 59 62 (bu 73 60) ?_ HT_ rfl rfl (.inl ⟨by rfl, ?_⟩) ?_ ?_ ?_; rotate_left; (focus intro w'; go_simp; with_reducible rfl); rotate_left; (focus simp only [pk]; rfl)
              refine pA 60 63 (bu 73 61) ?_ HT_ rfl rfl (.inl ⟨by rfl, ?_⟩) ?_ ?_ ?_; rotate_left; (focus intro w'; go_simp; with_reducible rfl); rotate_left; (focus simp only [pk]; rfl)
              refine pA 62 65 (bm 73 0x5fffffffffffffff) ?_ HT_ rfl rfl (.inl ⟨by rfl, ?_⟩) ?_ ?_ ?_; rotate_left; (focus intro w'; go_simp; with_reducible rfl); rotate_left; (focus simp only [pk]; rfl)
              refine tA 61 64 (bu 73 63) ?_ HT_ HW_ rfl rfl (.inl ⟨by rfl, ?_⟩) hHeld ?_ ?_ ?_; rotate_left; (focus rintro w' ⟨s0, s1, s2, s3, s4, s5, s6⟩; go_simp; with_reducible rfl); rotate_left; (focus simp only [pk]; rfl)
              refine tA 63 66 (bu 73 64) ?_ HT_ HW_ rfl rfl (.inl ⟨by rfl, ?_⟩) hHeld ?_ ?_ ?_; rotate_left; (focus rintro w' ⟨s0, s1, s2, s3, s4, s5, s6⟩; go_simp; with_reducible rfl); rotate_left; (focus simp only [pk]; rfl)
              refine pA 64 67 (bu 73 65) ?_ HT_ rfl rfl (.inl ⟨by rfl, ?_⟩) ?_ ?_ ?_; rotate_left; (focus intro w'; go_simp; with_reducible rfl); rotate_left; (focus simp only [pk]; rfl)
              refine pA 65 68 (bu 73 66) ?_ HT_ rfl rfl (.inl ⟨by rfl, ?_⟩) ?_ ?_ ?_; rotate_left; (focus intro w'; go_simp; with_reducible rfl); rotate_left; (focus simp only [pk]; rfl)
              refine pA 66 69 (bu 73 67) ?_ HT_ rfl rfl (.inl ⟨by rfl, ?_⟩) ?_ ?_ ?_; rotate_left; (focus intro w'; go_simp; with_reducible rfl); rotate_left; (focus simp only [pk]; rfl)
              refine pA 67 70 (bu 73 68) ?_ HT_ rfl rfl (.inl ⟨by rfl, ?_⟩) ?_ ?_ ?_; rotate_left; (focus intro w'; go_simp; with_reducible rfl); rotate_left; (focus simp only [pk]; rfl)
              refine tA 68 71 (bu 73 69) ?_ HT_ HW_ rfl rfl (.inl ⟨by rfl, ?_⟩) hHeld ?_ ?_ ?_; rotate_left; (focus rintro w' ⟨s0, s1, s2, s3, s4, s5, s6⟩; go_simp; with_reducible rfl); rotate_left; (focus simp only [pk]; rfl)
              refine tA 69 72 (bu 73 70) ?_ HT_ HW_ rfl rfl (.inl ⟨by rfl, ?_⟩) hHeld ?_ ?_ ?_; rotate_left; (focus rintro w' ⟨s0, s1, s2, s3, s4, s5, s6⟩; go_simp; with_reducible rfl); rotate_left; (focus simp only [pk]; rfl)
              refine one_ (i := 70) (N := some 73) (bu 73 71) rfl rfl (one_of HT_.out (by kernel_rfl)) (by decide) (fun K hK => ?_)
              refine goes_ Try.func32 (by kernel_rfl) rfl #[.agg #[.int .i64 a0_0, .slice A0_1 l0_1.length c0_1, .bool false, .int .i64 a0_3, .int .i64 a0_4, .int .i64 a0_5, .bool a0_6]] (by rfl) rfl rfl (by (try simp only [List.map_toArray, List.map_cons, List.map_nil]); first | done | rfl | (simp only [List.length_drop, List.length_take]; rfl) | (go_simp; done) | (go_simp; rfl)) ?_
              with_reducible refine (sender_top.calls a0_0 _ _ l0_1 false a0_3 a0_4 a0_5 a0_6 t114 _ ?side1 ?side2 A51.out).mono ?_
              (case side1 => repeat (first | exact (Kd.C_below HR0_1.out (by repeat (first | (with_reducible first | exact HB.out | apply b1 | apply b2 | apply b3 | refine below_set ?_ GE110.out) | exact HB.out))) | (with_reducible refine Kd.C_alloc ?_ _) | (with_reducible refine Kd.C_drewN ?_ _) | (with_reducible refine Kd.C_drew ?_)))
              (case side2 => exact HC0_1.out)
              rintro e w58 ⟨rfl, hb⟩
              refine ⟨_, rfl, ?_⟩
              have n0_ := Aside0.mk (bK BK110.out hb)
              have n1_ := Aside0.mk (below_step (by repeat (first | (with_reducible first | exact HB.out | apply b1 | apply b2 | apply b3 | refine below_set ?_ GE110.out) | exact HB.out)) hb)
              clear BK110
              clear HB
              have BK110 := n0_
              have HB := n1_
              clear n0_ n1_
              (try clear hb)
              (try clear hb2)
              (try clear hk)
              (try clear hi)
              refine hK.out _ _ ⟨(blk_cell BK110.out 0).trans rfl, (blk_cell BK110.out 1).trans rfl, (blk_cell BK110.out 2).trans rfl, (blk_cell BK110.out 3).trans rfl, (blk_cell BK110.out 4).trans rfl, (blk_cell BK110.out 5).trans rfl, (blk_cell BK110.out 6).trans rfl⟩ (fun hHeld => ?_)
              clear hK K
              refine norm_ (a' := ?_) ?_ ?_
              rotate_left
              ·show Act.put _ (some 73) _ = _
               simp only [Act.put, List.setIfInBounds_toArray, List.set_cons_zero, List.set_cons_succ, i64_w, i32_w]
               rfl
              refine pA 71 74 (bu 73 72) ?_ HT_ rfl rfl (.inl ⟨by rfl, ?_⟩) ?_ ?_ ?_; rotate_left; (focus intro w'; go_simp; with_reducible rfl); rotate_left; (focus simp only [pk]; rfl)
              refine pA 72 75 (bu 73 73) ?_ HT_ rfl rfl (.inl ⟨by rfl, ?_⟩) ?_ ?_ ?_; rotate_left; (focus intro w'; go_simp; with_reducible rfl); rotate_left; (focus simp only [pk]; rfl)
              refine done_ (done_of HT_.out (by kernel_rfl)) ?_
              try go_wp2
              go_ret
              exact ⟨by first | rfl | (simp [errW_none, errW_some] <;> rfl) | (simp [*, errW_none, errW_some] <;> rfl), by repeat (first | (with_reducible first | exact HB.out | apply b1 | apply b2 | apply b3 | refine below_set ?_ GE110.out) | exact HB.out)⟩
         ·rw [if_neg c40] at H
          have c40b0 : (a0_4 == 0) = false := beq_eq_false_iff_ne.mpr c40
          have c40b1 : (a0_4 != 0) = true := bne_iff_ne.mpr c40
          obtain rfl := Option.some.inj H
          go_enter Try.func18, Try.ntmps18
          try go_wp2_with (first | ((with_reducible refine gate_dst (N := 1) rfl ?_); (try (refine gate_guard (by rfl) ?_; dsimp only)); refine box_event ?hg (N := 1) ?hd (cs := #[.int .i64 a0_0, .slice A0_1 l0_1.length c0_1, .bool false, .int .i64 a0_3, .int .i64 a0_4, .int .i64 a0_5, .bool a0_6]) (t := 24) ?hr ?_; (case hd => rfl); (case hg => rfl); (case hr => first | (go_simp; done) | (go_simp; rfl)); intro gb110 hg w59 hbox hb; have n0_ := Aside0.mk (below_step (by first | with_reducible exact HB.out | exact sB HB.out) hb); have n1_ := Aside0.mk (hbox); have n2_ := Aside0.mk ((by rw [hg]; exact (below_size (by first | with_reducible exact HB.out | exact sB HB.out)) : w.heap.size ≤ gb110)); have n3_ := Aside0.mk ((by rw [hg]; exact (below_size (by first | with_reducible exact HB.out | exact sB HB.out)) : w.heap.size ≤ gb110)); clear HB; have HB := n0_; have BK110 := n1_; have GW110 := n2_; have GE110 := n3_; clear n0_ n1_ n2_ n3_; clear hb hbox hg))
          have n0_ := Aside0.mk (blk_drew BK110.out)
          have n1_ := Aside0.mk (below_drew1 HB.out)
          clear BK110
          clear HB
          have BK110 := n0_
          have HB := n1_
          clear n0_ n1_
          refine start_ (n := 73) (S := fun w' => w'.cell? ⟨gb110, 0, none⟩ = some (.int .i64 a0_0) ∧ w'.cell? ⟨gb110, 1, none⟩ = some (.slice A0_1 l0_1.length c0_1) ∧ w'.cell? ⟨gb110, 2, none⟩ = some (.bool false) ∧ w'.cell? ⟨gb110, 3, none⟩ = some (.int .i64 a0_3) ∧ w'.cell? ⟨gb110, 4, none⟩ = some (.int .i64 a0_4) ∧ w'.cell? ⟨gb110, 5, none⟩ = some (.int .i64 a0_5) ∧ w'.cell? ⟨gb110, 6, none⟩ = some (.bool a0_6)) (ds := []) (bu 73 0) (by kernel_rfl) rfl rfl ⟨(blk_cell BK110.out 0).trans rfl, (blk_cell BK110.out 1).trans rfl, (blk_cell BK110.out 2).trans rfl, (blk_cell BK110.out 3).trans rfl, (blk_cell BK110.out 4).trans rfl, (blk_cell BK110.out 5).trans rfl, (blk_cell BK110.out 6).trans rfl⟩ (fun hHeld => ?_); refine with_tabW sender_Check.tab1 sender_Check.bits1 (fun HT_ HW_ => ?_)
          generalize w59.drew = w60 at BK110 HB hHeld ⊢
          refine pA 0 3 (bu 73 1) ?_ HT_ rfl rfl (.inl ⟨by rfl, ?_⟩) ?_ ?_ ?_; rotate_left; (focus intro w'; go_simp; with_reducible rfl); rotate_left; (focus simp only [pk]; rfl)
          refine tA 1 4 (bu 73 2) ?_ HT_ HW_ rfl rfl (.inl ⟨by rfl, ?_⟩) hHeld ?_ ?_ ?_; rotate_left; (focus rintro w' ⟨s0, s1, s2, s3, s4, s5, s6⟩; go_simp; with_reducible rfl); rotate_left; (focus simp only [pk]; rfl)
          refine pA 2 5 (bu 73 3) ?_ HT_ rfl rfl (.inl ⟨by rfl, ?_⟩) ?_ ?_ ?_; rotate_left; (focus intro w'; go_simp; with_reducible rfl); rotate_left; (focus simp only [pk]; rfl)
          refine pA 3 6 (bu 73 4) ?_ HT_ rfl rfl (.inl ⟨by rfl, ?_⟩) ?_ ?_ ?_; rotate_left; (focus intro w'; go_simp; with_reducible rfl); rotate_left; (focus simp only [pk]; rfl)
          refine pA 4 7 (bu 73 5) ?_ HT_ rfl rfl (.inl ⟨by rfl, ?_⟩) ?_ ?_ ?_; rotate_left; (focus intro w'; go_simp; with_reducible rfl); rotate_left; (focus simp only [pk]; rfl)
          refine tA 5 8 (bu 73 6) ?_ HT_ HW_ rfl rfl (.inl ⟨by rfl, ?_⟩) hHeld ?_ ?_ ?_; rotate_left; (focus rintro w' ⟨s0, s1, s2, s3, s4, s5, s6⟩; go_simp; with_reducible rfl); rotate_left; (focus simp only [pk]; rfl)
          refine pA 6 9 (bu 73 7) ?_ HT_ rfl rfl (.inl ⟨by rfl, ?_⟩) ?_ ?_ ?_; rotate_left; (focus intro w'; go_simp; with_reducible rfl); rotate_left; (focus simp only [pk]; rfl)
          refine pA 7 10 (bu 73 8) ?_ HT_ rfl rfl (.inl ⟨by rfl, ?_⟩) ?_ ?_ ?_; rotate_left; (focus intro w'; go_simp; with_reducible rfl); rotate_left; (focus simp only [pk]; rfl)
          refine pA 8 11 (bu 73 9) ?_ HT_ rfl rfl (.inl ⟨by rfl, ?_⟩) ?_ ?_ ?_; rotate_left; (focus intro w'; go_simp; with_reducible rfl); rotate_left; (focus simp only [pk]; rfl)
          refine pA 9 12 (bu 73 10) ?_ HT_ rfl rfl (.inl ⟨by rfl, ?_⟩) ?_ ?_ ?_; rotate_left; (focus intro w'; go_simp; with_reducible rfl); rotate_left; (focus simp only [pk]; rfl)
          refine tA 10 13 (bu 73 11) ?_ HT_ HW_ rfl rfl (.inl ⟨by rfl, ?_⟩) hHeld ?_ ?_ ?_; rotate_left; (focus rintro w' ⟨s0, s1, s2, s3, s4, s5, s6⟩; go_simp; with_reducible rfl); rotate_left; (focus simp only [pk]; rfl)
          refine pA 11 14 (bu 73 12) ?_ HT_ rfl rfl (.inl ⟨by rfl, ?_⟩) ?_ ?_ ?_; rotate_left; (focus intro w'; go_simp; with_reducible rfl); rotate_left; (focus simp only [pk]; rfl)
          refine pA 12 15 (bu 73 13) ?_ HT_ rfl rfl (.inl ⟨by rfl, ?_⟩) ?_ ?_ ?_; rotate_left; (focus intro w'; go_simp; with_reducible rfl); rotate_left; (focus simp only [pk]; rfl)
          refine pA 13 16 (bu 73 14) ?_ HT_ rfl rfl (.inl ⟨by rfl, ?_⟩) ?_ ?_ ?_; rotate_left; (focus intro w'; go_simp; with_reducible rfl); rotate_left; (focus simp only [pk]; rfl)
          refine pA 14 17 (bu 73 15) ?_ HT_ rfl rfl (.inl ⟨by rfl, ?_⟩) ?_ ?_ ?_; rotate_left; (focus intro w'; go_simp; with_reducible rfl); rotate_left; (focus simp only [pk]; rfl)
          refine pA 15 18 (bu 73 16) ?_ HT_ rfl rfl (.inl ⟨by rfl, ?_⟩) ?_ ?_ ?_; rotate_left; (focus intro w'; go_simp; with_reducible rfl); rotate_left; (focus simp only [pk]; rfl)
          refine tA 16 19 (bu 73 17) ?_ HT_ HW_ rfl rfl (.inl ⟨by rfl, ?_⟩) hHeld ?_ ?_ ?_; rotate_left; (focus rintro w' ⟨s0, s1, s2, s3, s4, s5, s6⟩; go_simp; with_reducible rfl); rotate_left; (focus simp only [pk]; rfl)
          refine pA 17 20 (bu 73 18) ?_ HT_ rfl rfl (.inl ⟨by rfl, ?_⟩) ?_ ?_ ?_; rotate_left; (focus intro w'; go_simp; with_reducible rfl); rotate_left; (focus simp only [pk]; rfl)
          refine pA 18 21 (bu 73 19) ?_ HT_ rfl rfl (.inl ⟨by rfl, ?_⟩) ?_ ?_ ?_; rotate_left; (focus intro w'; go_simp; with_reducible rfl); rotate_left; (focus simp only [pk]; rfl)
          refine pA 19 22 (bu 73 20) ?_ HT_ rfl rfl (.inl ⟨by rfl, ?_⟩) ?_ ?_ ?_; rotate_left; (focus intro w'; go_simp; with_reducible rfl); rotate_left; (focus simp only [pk]; rfl)
          refine pA 20 23 (bu 73 21) ?_ HT_ rfl rfl (.inl ⟨by rfl, ?_⟩) ?_ ?_ ?_; rotate_left; (focus intro w'; go_simp; with_reducible rfl); rotate_left; (focus simp only [pk]; rfl)
          refine pA 21 24 (bu 73 22) ?_ HT_ rfl rfl (.inl ⟨by rfl, ?_⟩) ?_ ?_ ?_; rotate_left; (focus intro w'; go_simp; with_reducible rfl); rotate_left; (focus simp only [pk]; rfl)
          refine tA 22 25 (bu 73 23) ?_ HT_ HW_ rfl rfl (.inl ⟨by rfl, ?_⟩) hHeld ?_ ?_ ?_; rotate_left; (focus rintro w' ⟨s0, s1, s2, s3, s4, s5, s6⟩; go_simp; with_reducible rfl); rotate_left; (focus simp only [pk]; rfl)
          refine pA 23 26 (bu 73 24) ?_ HT_ rfl rfl (.inl ⟨by rfl, ?_⟩) ?_ ?_ ?_; rotate_left; (focus intro w'; go_simp; with_reducible rfl); rotate_left; (focus simp only [pk]; rfl)
          refine pA 24 27 (bu 73 25) ?_ HT_ rfl rfl (.inl ⟨by rfl, ?_⟩) ?_ ?_ ?_; rotate_left; (focus intro w'; go_simp; with_reducible rfl); rotate_left; (focus simp only [pk]; rfl)
          refine pA 25 28 (bu 73 26) ?_ HT_ rfl rfl (.inl ⟨by rfl, ?_⟩) ?_ ?_ ?_; rotate_left; (focus intro w'; go_simp; with_reducible rfl); rotate_left; (focus simp only [pk]; rfl)
          refine pA 26 29 (bu 73 27) ?_ HT_ rfl rfl (.inl ⟨by rfl, ?_⟩) ?_ ?_ ?_; rotate_left; (focus intro w'; go_simp; with_reducible rfl); rotate_left; (focus simp only [pk]; rfl)
          refine tA 27 30 (bu 73 28) ?_ HT_ HW_ rfl rfl (.inl ⟨by rfl, ?_⟩) hHeld ?_ ?_ ?_; rotate_left; (focus rintro w' ⟨s0, s1, s2, s3, s4, s5, s6⟩; go_simp; with_reducible rfl); rotate_left; (focus simp only [pk]; rfl)
          refine pA 28 31 (bu 73 29) ?_ HT_ rfl rfl (.inl ⟨by rfl, ?_⟩) ?_ ?_ ?_; rotate_left; (focus intro w'; go_simp; with_reducible rfl); rotate_left; (focus simp only [pk]; rfl)
          refine pA 29 32 (bu 73 30) ?_ HT_ rfl rfl (.inl ⟨by rfl, ?_⟩) ?_ ?_ ?_; rotate_left; (focus intro w'; go_simp; with_reducible rfl); rotate_left; (focus simp only [pk]; rfl)
          refine pA 30 33 (bu 73 31) ?_ HT_ rfl rfl (.inl ⟨by rfl, ?_⟩) ?_ ?_ ?_; rotate_left; (focus intro w'; go_simp; with_reducible rfl); rotate_left; (focus simp only [pk]; rfl)
          refine pA 31 34 (bu 73 32) ?_ HT_ rfl rfl (.inl ⟨by rfl, ?_⟩) ?_ ?_ ?_; rotate_left; (focus intro w'; go_simp; with_reducible rfl); rotate_left; (focus simp only [pk]; rfl)
          refine tA 32 35 (bu 73 33) ?_ HT_ HW_ rfl rfl (.inl ⟨by rfl, ?_⟩) hHeld ?_ ?_ ?_; rotate_left; (focus rintro w' ⟨s0, s1, s2, s3, s4, s5, s6⟩; go_simp; with_reducible rfl); rotate_left; (focus simp only [pk]; rfl)
          refine pA 33 36 (bu 73 34) ?_ HT_ rfl rfl (.inl ⟨by rfl, ?_⟩) ?_ ?_ ?_; rotate_left; (focus intro w'; go_simp; with_reducible rfl); rotate_left; (focus simp only [pk]; rfl)
          refine pA 34 37 (bu 73 35) ?_ HT_ rfl rfl (.inl ⟨by rfl, ?_⟩) ?_ ?_ ?_; rotate_left; (focus intro w'; go_simp; with_reducible rfl); rotate_left; (focus simp only [pk]; rfl)
          refine pA 35 38 (bu 73 36) ?_ HT_ rfl rfl (.inl ⟨by rfl, ?_⟩) ?_ ?_ ?_; rotate_left; (focus intro w'; go_simp; with_reducible rfl); rotate_left; (focus simp only [pk]; rfl)
          refine tA 36 39 (bu 73 37) ?_ HT_ HW_ rfl rfl (.inl ⟨by rfl, ?_⟩) hHeld ?_ ?_ ?_; rotate_left; (focus rintro w' ⟨s0, s1, s2, s3, s4, s5, s6⟩; go_simp; with_reducible rfl); rotate_left; (focus simp only [pk]; rfl)
          refine pA 37 40 (bu 73 38) ?_ HT_ rfl rfl (.inl ⟨by rfl, ?_⟩) ?_ ?_ ?_; rotate_left; (focus intro w'; go_simp; with_reducible rfl); rotate_left; (focus simp only [pk]; rfl)
          refine pA 38 41 (bu 73 39) ?_ HT_ rfl rfl (.inl ⟨by rfl, ?_⟩) ?_ ?_ ?_; rotate_left; (focus intro w'; go_simp; with_reducible rfl); rotate_left; (focus simp only [pk]; rfl)
          refine pA 39 42 (bu 73 40) ?_ HT_ rfl rfl (.inl ⟨by rfl, ?_⟩) ?_ ?_ ?_; rotate_left; (focus intro w'; go_simp; with_reducible rfl); rotate_left; (focus simp only [pk]; rfl)
          refine tA 40 43 (bu 73 41) ?_ HT_ HW_ rfl rfl (.inl ⟨by rfl, ?_⟩) hHeld ?_ ?_ ?_; rotate_left; (focus rintro w' ⟨s0, s1, s2, s3, s4, s5, s6⟩; go_simp; with_reducible rfl); rotate_left; (focus simp only [pk]; rfl)
          refine pA 41 44 (bu 73 42) ?_ HT_ rfl rfl (.inl ⟨by rfl, ?_⟩) ?_ ?_ ?_; rotate_left; (focus intro w'; go_simp; with_reducible rfl); rotate_left; (focus simp only [pk]; rfl)
          refine pA 42 45 (bu 73 43) ?_ HT_ rfl rfl (.inl ⟨by rfl, ?_⟩) ?_ ?_ ?_; rotate_left; (focus intro w'; go_simp; with_reducible rfl); rotate_left; (focus simp only [pk]; rfl)
          refine pA 43 46 (bu 73 44) ?_ HT_ rfl rfl (.inl ⟨by rfl, ?_⟩) ?_ ?_ ?_; rotate_left; (focus intro w'; go_simp; with_reducible rfl); rotate_left; (focus simp only [pk]; rfl)
          refine pA 44 47 (bu 73 45) ?_ HT_ rfl rfl (.inl ⟨by rfl, ?_⟩) ?_ ?_ ?_; rotate_left; (focus intro w'; go_simp; with_reducible rfl); rotate_left; (focus simp only [pk]; rfl)
          refine pA 45 48 (bu 73 46) ?_ HT_ rfl rfl (.inl ⟨by rfl, ?_⟩) ?_ ?_ ?_; rotate_left; (focus intro w'; go_simp; with_reducible rfl); rotate_left; (focus simp only [pk]; rfl)
          refine pU 46 49 (bu 73 47) HT_ ?_ ?_ ?_; rotate_left; (focus simp only [pk]; rfl)
          refine pU 47 50 (bu 73 48) HT_ ?_ ?_ ?_; rotate_left; (focus simp only [pk]; rfl)
          refine pU 48 51 (bu 73 49) HT_ ?_ ?_ ?_; rotate_left; (focus simp only [pk]; rfl)
          refine pA 49 52 (bu 73 50) ?_ HT_ rfl rfl (.inl ⟨by rfl, ?_⟩) ?_ ?_ ?_; rotate_left; (focus intro w'; go_simp; with_reducible rfl); rotate_left; (focus simp only [pk]; rfl)
          refine pA 50 53 (bu 73 51) ?_ HT_ rfl rfl (.inl ⟨by rfl, ?_⟩) ?_ ?_ ?_; rotate_left; (focus intro w'; go_simp; with_reducible rfl); rotate_left; (focus simp only [pk]; rfl)
          refine pU 51 54 (bu 73 52) HT_ ?_ ?_ ?_; rotate_left; (focus simp only [pk]; rfl)
          refine pU 52 55 (bu 73 53) HT_ ?_ ?_ ?_; rotate_left; (focus simp only [pk]; rfl)
          refine pU 53 56 (bu 73 54) HT_ ?_ ?_ ?_; rotate_left; (focus simp only [pk]; rfl)
          refine pU 54 57 (bu 73 55) HT_ ?_ ?_ ?_; rotate_left; (focus simp only [pk]; rfl)
          refine pU 55 58 (bu 73 56) HT_ ?_ ?_ ?_; rotate_left; (focus simp only [pk]; rfl)
          refine pU 56 59 (bu 73 57) HT_ ?_ ?_ ?_; rotate_left; (focus simp only [pk]; rfl)
          refine pU 57 60 (bu 73 58) HT_ ?_ ?_ ?_; rotate_left; (focus simp only [pk]; rfl)
          refine pA 58 61 (bu 73 59) ?_ HT_ rfl rfl (.inl ⟨by rfl, ?_⟩) ?_ ?_ ?_; rotate_left; (focus intro w'; go_simp; with_reducible rfl); rotate_left; (focus simp only [pk]; rfl)
          refine pA 59 62 (bu 73 60) ?_ HT_ rfl rfl (.inl ⟨by rfl, ?_⟩) ?_ ?_ ?_; rotate_left; (focus intro w'; go_simp; with_reducible rfl); rotate_left; (focus simp only [pk]; rfl)
          refine pU 60 63 (bu 73 61) HT_ ?_ ?_ ?_; rotate_left; (focus simp only [pk]; rfl)
          refine pU 61 64 (bu 73 62) HT_ ?_ ?_ ?_; rotate_left; (focus simp only [pk]; rfl)
          refine pU 62 65 (bu 73 63) HT_ ?_ ?_ ?_; rotate_left; (focus simp only [pk]; rfl)
          refine pU 63 66 (bu 73 64) HT_ ?_ ?_ ?_; rotate_left; (focus simp only [pk]; rfl)
          refine pU 64 67 (bu 73 65) HT_ ?_ ?_ ?_; rotate_left; (focus simp only [pk]; rfl)
          refine pA 65 68 (bu 73 66) ?_ HT_ rfl rfl (.inl ⟨by rfl, ?_⟩) ?_ ?_ ?_; rotate_left; (focus intro w'; go_simp; with_reducible rfl); rotate_left; (focus simp only [pk]; rfl)
          refine pA 66 69 (bu 73 67) ?_ HT_ rfl rfl (.inl ⟨by rfl, ?_⟩) ?_ ?_ ?_; rotate_left; (focus intro w'; go_simp; with_reducible rfl); rotate_left; (focus simp only [pk]; rfl)
          refine pU 67 70 (bu 73 68) HT_ ?_ ?_ ?_; rotate_left; (focus simp only [pk]; rfl)
          refine pU 68 71 (bu 73 69) HT_ ?_ ?_ ?_; rotate_left; (focus simp only [pk]; rfl)
          refine pU 69 72 (bu 73 70) HT_ ?_ ?_ ?_; rotate_left; (focus simp only [pk]; rfl)
          refine pU 70 73 (bu 73 71) HT_ ?_ ?_ ?_; rotate_left; (focus simp only [pk]; rfl)
          refine pU 71 74 (bu 73 72) HT_ ?_ ?_ ?_; rotate_left; (focus simp only [pk]; rfl)
          refine pA 72 75 (bu 73 73) ?_ HT_ rfl rfl (.inl ⟨by rfl, ?_⟩) ?_ ?_ ?_; rotate_left; (focus intro w'; go_simp; with_reducible rfl); rotate_left; (focus simp only [pk]; rfl)
          refine done_ (done_of HT_.out (by kernel_rfl)) ?_
          try go_wp2
          go_ret
          exact ⟨by first | rfl | (simp [errW_none, errW_some] <;> rfl) | (simp [*, errW_none, errW_some] <;> rfl), by repeat (first | (with_reducible first | exact HB.out | apply b1 | apply b2 | apply b3 | refine below_set ?_ GE110.out) | exact HB.out)⟩
        ·rw [if_neg c39] at H
         have c39b0 : (a0_3 == 0) = false := beq_eq_false_iff_ne.mpr c39
         have c39b1 : (a0_3 != 0) = true := bne_iff_ne.mpr c39
         obtain rfl := Option.some.inj H
         go_enter Try.func18, Try.ntmps18
         try go_wp2_with (first | ((with_reducible refine gate_dst (N := 1) rfl ?_); (try (refine gate_guard (by rfl) ?_; dsimp only)); refine box_event ?hg (N := 1) ?hd (cs := #[.int .i64 a0_0, .slice A0_1 l0_1.length c0_1, .bool false, .int .i64 a0_3, .int .i64 a0_4, .int .i64 a0_5, .bool a0_6]) (t := 24) ?hr ?_; (case hd => rfl); (case hg => rfl); (case hr => first | (go_simp; done) | (go_simp; rfl)); intro gb110 hg w61 hbox hb; have n0_ := Aside0.mk (below_step (by first | with_reducible exact HB.out | exact sB HB.out) hb); have n1_ := Aside0.mk (hbox); have n2_ := Aside0.mk ((by rw [hg]; exact (below_size (by first | with_reducible exact HB.out | exact sB HB.out)) : w.heap.size ≤ gb110)); have n3_ := Aside0.mk ((by rw [hg]; exact (below_size (by first | with_reducible exact HB.out | exact sB HB.out)) : w.heap.size ≤ gb110)); clear HB; have HB := n0_; have BK110 := n1_; have GW110 := n2_; have GE110 := n3_; clear n0_ n1_ n2_ n3_; clear hb hbox hg))
         have n0_ := Aside0.mk (blk_drew BK110.out)
         have n1_ := Aside0.mk (below_drew1 HB.out)
         clear BK110
         clear HB
         have BK110 := n0_
         have HB := n1_
         clear n0_ n1_
         refine start_ (n := 73) (S := fun w' => w'.cell? ⟨gb110, 0, none⟩ = some (.int .i64 a0_0) ∧ w'.cell? ⟨gb110, 1, none⟩ = some (.slice A0_1 l0_1.length c0_1) ∧ w'.cell? ⟨gb110, 2, none⟩ = some (.bool false) ∧ w'.cell? ⟨gb110, 3, none⟩ = some (.int .i64 a0_3) ∧ w'.cell? ⟨gb110, 4, none⟩ = some (.int .i64 a0_4) ∧ w'.cell? ⟨gb110, 5, none⟩ = some (.int .i64 a0_5) ∧ w'.cell? ⟨gb110, 6, none⟩ = some (.bool a0_6)) (ds := []) (bu 73 0) (by kernel_rfl) rfl rfl ⟨(blk_cell BK110.out 0).trans rfl, (blk_cell BK110.out 1).trans rfl, (blk_cell BK110.out 2).trans rfl, (blk_cell BK110.out 3).trans rfl, (blk_cell BK110.out 4).trans rfl, (blk_cell BK110.out 5).trans rfl, (blk_cell BK110.out 6).trans rfl⟩ (fun hHeld => ?_); refine with_tabW sender_Check.tab1 sender_Check.bits1 (fun HT_ HW_ => ?_)
         generalize w61.drew = w62 at BK110 HB hHeld ⊢
         refine pA 0 3 (bu 73 1) ?_ HT_ rfl rfl (.inl ⟨by rfl, ?_⟩) ?_ ?_ ?_; rotate_left; (focus intro w'; go_simp; with_reducible rfl); rotate_left; (focus simp only [pk]; rfl)
         refine tA 1 4 (bu 73 2) ?_ HT_ HW_ rfl rfl (.inl ⟨by rfl, ?_⟩) hHeld ?_ ?_ ?_; rotate_left; (focus rintro w' ⟨s0, s1, s2, s3, s4, s5, s6⟩; go_simp; with_reducible rfl); rotate_left; (focus simp only [pk]; rfl)
         refine pA 2 5 (bu 73 3) ?_ HT_ rfl rfl (.inl ⟨by rfl, ?_⟩) ?_ ?_ ?_; rotate_left; (focus intro w'; go_simp; with_reducible rfl); rotate_left; (focus simp only [pk]; rfl)
         refine pA 3 6 (bu 73 4) ?_ HT_ rfl rfl (.inl ⟨by rfl, ?_⟩) ?_ ?_ ?_; rotate_left; (focus intro w'; go_simp; with_reducible rfl); rotate_left; (focus simp only [pk]; rfl)
         refine pA 4 7 (bu 73 5) ?_ HT_ rfl rfl (.inl ⟨by rfl, ?_⟩) ?_ ?_ ?_; rotate_left; (focus intro w'; go_simp; with_reducible rfl); rotate_left; (focus simp only [pk]; rfl)
         refine tA 5 8 (bu 73 6) ?_ HT_ HW_ rfl rfl (.inl ⟨by rfl, ?_⟩) hHeld ?_ ?_ ?_; rotate_left; (focus rintro w' ⟨s0, s1, s2, s3, s4, s5, s6⟩; go_simp; with_reducible rfl); rotate_left; (focus simp only [pk]; rfl)
         refine pA 6 9 (bu 73 7) ?_ HT_ rfl rfl (.inl ⟨by rfl, ?_⟩) ?_ ?_ ?_; rotate_left; (focus intro w'; go_simp; with_reducible rfl); rotate_left; (focus simp only [pk]; rfl)
         refine pA 7 10 (bu 73 8) ?_ HT_ rfl rfl (.inl ⟨by rfl, ?_⟩) ?_ ?_ ?_; rotate_left; (focus intro w'; go_simp; with_reducible rfl); rotate_left; (focus simp only [pk]; rfl)
         refine pA 8 11 (bu 73 9) ?_ HT_ rfl rfl (.inl ⟨by rfl, ?_⟩) ?_ ?_ ?_; rotate_left; (focus intro w'; go_simp; with_reducible rfl); rotate_left; (focus simp only [pk]; rfl)
         refine pA 9 12 (bu 73 10) ?_ HT_ rfl rfl (.inl ⟨by rfl, ?_⟩) ?_ ?_ ?_; rotate_left; (focus intro w'; go_simp; with_reducible rfl); rotate_left; (focus simp only [pk]; rfl)
         refine tA 10 13 (bu 73 11) ?_ HT_ HW_ rfl rfl (.inl ⟨by rfl, ?_⟩) hHeld ?_ ?_ ?_; rotate_left; (focus rintro w' ⟨s0, s1, s2, s3, s4, s5, s6⟩; go_simp; with_reducible rfl); rotate_left; (focus simp only [pk]; rfl)
         refine pA 11 14 (bu 73 12) ?_ HT_ rfl rfl (.inl ⟨by rfl, ?_⟩) ?_ ?_ ?_; rotate_left; (focus intro w'; go_simp; with_reducible rfl); rotate_left; (focus simp only [pk]; rfl)
         refine pA 12 15 (bu 73 13) ?_ HT_ rfl rfl (.inl ⟨by rfl, ?_⟩) ?_ ?_ ?_; rotate_left; (focus intro w'; go_simp; with_reducible rfl); rotate_left; (focus simp only [pk]; rfl)
         refine pA 13 16 (bu 73 14) ?_ HT_ rfl rfl (.inl ⟨by rfl, ?_⟩) ?_ ?_ ?_; rotate_left; (focus intro w'; go_simp; with_reducible rfl); rotate_left; (focus simp only [pk]; rfl)
         refine pA 14 17 (bu 73 15) ?_ HT_ rfl rfl (.inl ⟨by rfl, ?_⟩) ?_ ?_ ?_; rotate_left; (focus intro w'; go_simp; with_reducible rfl); rotate_left; (focus simp only [pk]; rfl)
         refine pA 15 18 (bu 73 16) ?_ HT_ rfl rfl (.inl ⟨by rfl, ?_⟩) ?_ ?_ ?_; rotate_left; (focus intro w'; go_simp; with_reducible rfl); rotate_left; (focus simp only [pk]; rfl)
         refine tA 16 19 (bu 73 17) ?_ HT_ HW_ rfl rfl (.inl ⟨by rfl, ?_⟩) hHeld ?_ ?_ ?_; rotate_left; (focus rintro w' ⟨s0, s1, s2, s3, s4, s5, s6⟩; go_simp; with_reducible rfl); rotate_left; (focus simp only [pk]; rfl)
         refine pA 17 20 (bu 73 18) ?_ HT_ rfl rfl (.inl ⟨by rfl, ?_⟩) ?_ ?_ ?_; rotate_left; (focus intro w'; go_simp; with_reducible rfl); rotate_left; (focus simp only [pk]; rfl)
         refine pA 18 21 (bu 73 19) ?_ HT_ rfl rfl (.inl ⟨by rfl, ?_⟩) ?_ ?_ ?_; rotate_left; (focus intro w'; go_simp; with_reducible rfl); rotate_left; (focus simp only [pk]; rfl)
         refine pA 19 22 (bu 73 20) ?_ HT_ rfl rfl (.inl ⟨by rfl, ?_⟩) ?_ ?_ ?_; rotate_left; (focus intro w'; go_simp; with_reducible rfl); rotate_left; (focus simp only [pk]; rfl)
         refine pA 20 23 (bu 73 21) ?_ HT_ rfl rfl (.inl ⟨by rfl, ?_⟩) ?_ ?_ ?_; rotate_left; (focus intro w'; go_simp; with_reducible rfl); rotate_left; (focus simp only [pk]; rfl)
         refine pA 21 24 (bu 73 22) ?_ HT_ rfl rfl (.inl ⟨by rfl, ?_⟩) ?_ ?_ ?_; rotate_left; (focus intro w'; go_simp; with_reducible rfl); rotate_left; (focus simp only [pk]; rfl)
         refine tA 22 25 (bu 73 23) ?_ HT_ HW_ rfl rfl (.inl ⟨by rfl, ?_⟩) hHeld ?_ ?_ ?_; rotate_left; (focus rintro w' ⟨s0, s1, s2, s3, s4, s5, s6⟩; go_simp; with_reducible rfl); rotate_left; (focus simp only [pk]; rfl)
         refine pA 23 26 (bu 73 24) ?_ HT_ rfl rfl (.inl ⟨by rfl, ?_⟩) ?_ ?_ ?_; rotate_left; (focus intro w'; go_simp; with_reducible rfl); rotate_left; (focus simp only [pk]; rfl)
         refine pA 24 27 (bu 73 25) ?_ HT_ rfl rfl (.inl ⟨by rfl, ?_⟩) ?_ ?_ ?_; rotate_left; (focus intro w'; go_simp; with_reducible rfl); rotate_left; (focus simp only [pk]; rfl)
         refine pA 25 28 (bu 73 26) ?_ HT_ rfl rfl (.inl ⟨by rfl, ?_⟩) ?_ ?_ ?_; rotate_left; (focus intro w'; go_simp; with_reducible rfl); rotate_left; (focus simp only [pk]; rfl)
         refine pA 26 29 (bu 73 27) ?_ HT_ rfl rfl (.inl ⟨by rfl, ?_⟩) ?_ ?_ ?_; rotate_left; (focus intro w'; go_simp; with_reducible rfl); rotate_left; (focus simp only [pk]; rfl)
         refine tA 27 30 (bu 73 28) ?_ HT_ HW_ rfl rfl (.inl ⟨by rfl, ?_⟩) hHeld ?_ ?_ ?_; rotate_left; (focus rintro w' ⟨s0, s1, s2, s3, s4, s5, s6⟩; go_simp; with_reducible rfl); rotate_left; (focus simp only [pk]; rfl)
         refine pA 28 31 (bu 73 29) ?_ HT_ rfl rfl (.inl ⟨by rfl, ?_⟩) ?_ ?_ ?_; rotate_left; (focus intro w'; go_simp; with_reducible rfl); rotate_left; (focus simp only [pk]; rfl)
         refine pA 29 32 (bu 73 30) ?_ HT_ rfl rfl (.inl ⟨by rfl, ?_⟩) ?_ ?_ ?_; rotate_left; (focus intro w'; go_simp; with_reducible rfl); rotate_left; (focus simp only [pk]; rfl)
         refine pA 30 33 (bu 73 31) ?_ HT_ rfl rfl (.inl ⟨by rfl, ?_⟩) ?_ ?_ ?_; rotate_left; (focus intro w'; go_simp; with_reducible rfl); rotate_left; (focus simp only [pk]; rfl)
         refine pA 31 34 (bu 73 32) ?_ HT_ rfl rfl (.inl ⟨by rfl, ?_⟩) ?_ ?_ ?_; rotate_left; (focus intro w'; go_simp; with_reducible rfl); rotate_left; (focus simp only [pk]; rfl)
         refine tA 32 35 (bu 73 33) ?_ HT_ HW_ rfl rfl (.inl ⟨by rfl, ?_⟩) hHeld ?_ ?_ ?_; rotate_left; (focus rintro w' ⟨s0, s1, s2, s3, s4, s5, s6⟩; go_simp; with_reducible rfl); rotate_left; (focus simp only [pk]; rfl)
         refine pA 33 36 (bu 73 34) ?_ HT_ rfl rfl (.inl ⟨by rfl, ?_⟩) ?_ ?_ ?_; rotate_left; (focus intro w'; go_simp; with_reducible rfl); rotate_left; (focus simp only [pk]; rfl)
         refine pA 34 37 (bu 73 35) ?_ HT_ rfl rfl (.inl ⟨by rfl, ?_⟩) ?_ ?_ ?_; rotate_left; (focus intro w'; go_simp; with_reducible rfl); rotate_left; (focus simp only [pk]; rfl)
         refine pA 35 38 (bu 73 36) ?_ HT_ rfl rfl (.inl ⟨by rfl, ?_⟩) ?_ ?_ ?_; rotate_left; (focus intro w'; go_simp; with_reducible rfl); rotate_left; (focus simp only [pk]; rfl)
         refine tA 36 39 (bu 73 37) ?_ HT_ HW_ rfl rfl (.inl ⟨by rfl, ?_⟩) hHeld ?_ ?_ ?_; rotate_left; (focus rintro w' ⟨s0, s1, s2, s3, s4, s5, s6⟩; go_simp; with_reducible rfl); rotate_left; (focus simp only [pk]; rfl)
         refine pA 37 40 (bu 73 38) ?_ HT_ rfl rfl (.inl ⟨by rfl, ?_⟩) ?_ ?_ ?_; rotate_left; (focus intro w'; go_simp; with_reducible rfl); rotate_left; (focus simp only [pk]; rfl)
         refine pA 38 41 (bu 73 39) ?_ HT_ rfl rfl (.inl ⟨by rfl, ?_⟩) ?_ ?_ ?_; rotate_left; (focus intro w'; go_simp; with_reducible rfl); rotate_left; (focus simp only [pk]; rfl)
         refine pU 39 42 (bu 73 40) HT_ ?_ ?_ ?_; rotate_left; (focus simp only [pk]; rfl)
         refine pU 40 43 (bu 73 41) HT_ ?_ ?_ ?_; rotate_left; (focus simp only [pk]; rfl)
         refine pU 41 44 (bu 73 42) HT_ ?_ ?_ ?_; rotate_left; (focus simp only [pk]; rfl)
         refine pA 42 45 (bu 73 43) ?_ HT_ rfl rfl (.inl ⟨by rfl, ?_⟩) ?_ ?_ ?_; rotate_left; (focus intro w'; go_simp; with_reducible rfl); rotate_left; (focus simp only [pk]; rfl)
         refine pA 43 46 (bu 73 44) ?_ HT_ rfl rfl (.inl ⟨by rfl, ?_⟩) ?_ ?_ ?_; rotate_left; (focus intro w'; go_simp; with_reducible rfl); rotate_left; (focus simp only [pk]; rfl)
         refine pA 44 47 (bu 73 45) ?_ HT_ rfl rfl (.inl ⟨by rfl, ?_⟩) ?_ ?_ ?_; rotate_left; (focus intro w'; go_simp; with_reducible rfl); rotate_left; (focus simp only [pk]; rfl)
         refine pA 45 48 (bu 73 46) ?_ HT_ rfl rfl (.inl ⟨by rfl, ?_⟩) ?_ ?_ ?_; rotate_left; (focus intro w'; go_simp; with_reducible rfl); rotate_left; (focus simp only [pk]; rfl)
         refine pU 46 49 (bu 73 47) HT_ ?_ ?_ ?_; rotate_left; (focus simp only [pk]; rfl)
         refine pU 47 50 (bu 73 48) HT_ ?_ ?_ ?_; rotate_left; (focus simp only [pk]; rfl)
         refine pU 48 51 (bu 73 49) HT_ ?_ ?_ ?_; rotate_left; (focus simp only [pk]; rfl)
         refine pA 49 52 (bu 73 50) ?_ HT_ rfl rfl (.inl ⟨by rfl, ?_⟩) ?_ ?_ ?_; rotate_left; (focus intro w'; go_simp; with_reducible rfl); rotate_left; (focus simp only [pk]; rfl)
         refine pA 50 53 (bu 73 51) ?_ HT_ rfl rfl (.inl ⟨by rfl, ?_⟩) ?_ ?_ ?_; rotate_left; (focus intro w'; go_simp; with_reducible rfl); rotate_left; (focus simp only [pk]; rfl)
         refine pU 51 54 (bu 73 52) HT_ ?_ ?_ ?_; rotate_left; (focus simp only [pk]; rfl)
         refine pU 52 55 (bu 73 53) HT_ ?_ ?_ ?_; rotate_left; (focus simp only [pk]; rfl)
         refine pU 53 56 (bu 73 54) HT_ ?_ ?_ ?_; rotate_left; (focus simp only [pk]; rfl)
         refine pU 54 57 (bu 73 55) HT_ ?_ ?_ ?_; rotate_left; (focus simp only [pk]; rfl)
         refine pU 55 58 (bu 73 56) HT_ ?_ ?_ ?_; rotate_left; (focus simp only [pk]; rfl)
         refine pU 56 59 (bu 73 57) HT_ ?_ ?_ ?_; rotate_left; (focus simp only [pk]; rfl)
         refine pU 57 60 (bu 73 58) HT_ ?_ ?_ ?_; rotate_left; (focus simp only [pk]; rfl)
         refine pA 58 61 (bu 73 59) ?_ HT_ rfl rfl (.inl ⟨by rfl, ?_⟩) ?_ ?_ ?_; rotate_left; (focus intro w'; go_simp; with_reducible rfl); rotate_left; (focus simp only [pk]; rfl)
         refine pA 59 62 (bu 73 60) ?_ HT_ rfl rfl (.inl ⟨by rfl, ?_⟩) ?_ ?_ ?_; rotate_left; (focus intro w'; go_simp; with_reducible rfl); rotate_left; (focus simp only [pk]; rfl)
         refine pU 60 63 (bu 73 61) HT_ ?_ ?_ ?_; rotate_left; (focus simp only [pk]; rfl)
         refine pU 61 64 (bu 73 62) HT_ ?_ ?_ ?_; rotate_left; (focus simp only [pk]; rfl)
         refine pU 62 65 (bu 73 63) HT_ ?_ ?_ ?_; rotate_left; (focus simp only [pk]; rfl)
         refine pU 63 66 (bu 73 64) HT_ ?_ ?_ ?_; rotate_left; (focus simp only [pk]; rfl)
         refine pU 64 67 (bu 73 65) HT_ ?_ ?_ ?_; rotate_left; (focus simp only [pk]; rfl)
         refine pA 65 68 (bu 73 66) ?_ HT_ rfl rfl (.inl ⟨by rfl, ?_⟩) ?_ ?_ ?_; rotate_left; (focus intro w'; go_simp; with_reducible rfl); rotate_left; (focus simp only [pk]; rfl)
         refine pA 66 69 (bu 73 67) ?_ HT_ rfl rfl (.inl ⟨by rfl, ?_⟩) ?_ ?_ ?_; rotate_left; (focus intro w'; go_simp; with_reducible rfl); rotate_left; (focus simp only [pk]; rfl)
         refine pU 67 70 (bu 73 68) HT_ ?_ ?_ ?_; rotate_left; (focus simp only [pk]; rfl)
         refine pU 68 71 (bu 73 69) HT_ ?_ ?_ ?_; rotate_left; (focus simp only [pk]; rfl)
         refine pU 69 72 (bu 73 70) HT_ ?_ ?_ ?_; rotate_left; (focus simp only [pk]; rfl)
         refine pU 70 73 (bu 73 71) HT_ ?_ ?_ ?_; rotate_left; (focus simp only [pk]; rfl)
         refine pU 71 74 (bu 73 72) HT_ ?_ ?_ ?_; rotate_left; (focus simp only [pk]; rfl)
         refine pA 72 75 (bu 73 73) ?_ HT_ rfl rfl (.inl ⟨by rfl, ?_⟩) ?_ ?_ ?_; rotate_left; (focus intro w'; go_simp; with_reducible rfl); rotate_left; (focus simp only [pk]; rfl)
         refine done_ (done_of HT_.out (by kernel_rfl)) ?_
         try go_wp2
         go_ret
         exact ⟨by first | rfl | (simp [errW_none, errW_some] <;> rfl) | (simp [*, errW_none, errW_some] <;> rfl), by repeat (first | (with_reducible first | exact HB.out | apply b1 | apply b2 | apply b3 | refine below_set ?_ GE110.out) | exact HB.out)⟩

end Go.Proofs.Ytlbajfhioebphaa.FA
