/- Functions of the program, each told as a plain Lean function, and that the program computes it: written by this session's own program. -/
import Derived.Test.YtlbajfhioebphaaFAx0
import Derived.Test.YtlbajfhioebphaaFAx1
import Derived.Test.YtlbajfhioebphaaFAx4
import Derived.Test.YtlbajfhioebphaaFAx5
import Derived.Test.YtlbajfhioebphaaFAx7
import Derived.Test.YtlbajfhioebphaaFAx8
import Derived.Test.YtlbajfhioebphaaFAx11
namespace Go.Proofs.Ytlbajfhioebphaa.FA
open Go.RowKit Go.Proofs.YtlbajfhioebphaaW.PrintWords Go.Proofs.YtlbajfhioebphaaW.PrintLast Go.Proofs.YtlbajfhioebphaaW.PrintMore
attribute [local go_sem] max2_int min2_int max_two min_two max_three min_three max_four min_four   -- for this text's walks alone
set_option linter.unusedVariables false
set_option linter.unusedSimpArgs false

/-! ### wherrylaw21_SenderOver: function 7 -/
mutual
def wherrylaw21_SenderOver.j0 : Nat → Bool → Int → List Int → Bool → Int → Int → Int → Bool → Int → Int → Int → Int → List Int → Option (Bool)
 | 0, _, _, _, _, _, _, _, _, _, _, _, _, _ => none
 | k + 1, x26, x297000, x297001, x297002, x297003, x297004, x297005, x297006, x298000, x298001, x298002, x298003, x298004 => if x26 = true then (some true) else ((sender_Hear.f k x297000 x297001 x297002 x297003 x297004 x297005 x297006 5 x297000 0 0 ([] : List Int)).bind fun bt299 => (if x297006 = true then (if bt299.2.2.2.2.2.2.2 = 11 then ((wherrykeep_Send.f k bt299.1 bt299.2.1 bt299.2.2.1 bt299.2.2.2.1 bt299.2.2.2.2.1 bt299.2.2.2.2.2.1 bt299.2.2.2.2.2.2.1 0 ([] : List Int) false 0 0 0 false).bind fun t310 => (if t310 = true then ((wherrylaw21_wakes.f k).bind fun t311 => (some t311)) else (some false))) else (some false)) else (if bt299.2.2.2.2.2.2.2 = 0 then (wherrylaw21_SenderOver.j1 k (!bt299.2.2.2.2.2.2.1) x298000 x298001 x298002 x298003 x298004 bt299.1 bt299.2.1 bt299.2.2.1 bt299.2.2.2.1 bt299.2.2.2.2.1 bt299.2.2.2.2.2.1 bt299.2.2.2.2.2.2.1) else (wherrylaw21_SenderOver.j1 k true x298000 x298001 x298002 x298003 x298004 bt299.1 bt299.2.1 bt299.2.2.1 bt299.2.2.2.1 bt299.2.2.2.2.1 bt299.2.2.2.2.2.1 bt299.2.2.2.2.2.2.1))))
def wherrylaw21_SenderOver.j1 : Nat → Bool → Int → Int → Int → Int → List Int → Int → List Int → Bool → Int → Int → Int → Bool → Option (Bool)
 | 0, _, _, _, _, _, _, _, _, _, _, _, _, _ => none
 | k + 1, x53, x298000, x298001, x298002, x298003, x298004, x310000, x310001, x310002, x310003, x310004, x310005, x310006 => if x53 = true then (some false) else ((sender_Hear.f k x310000 x310001 x310002 x310003 x310004 x310005 x310006 x298000 x298001 x298002 x298003 x298004).bind fun bt312 => ((sender_Tick.f k x310000 x310001 x310002 x310003 x310004 x310005 x310006).bind fun bt323 => ((wherryref18_Frame.f k x298000 x298001 x298002 x298003 x298004).bind fun t337 => (if t337 = true then (if bt312.2.2.2.2.2.2.2 = 11 then ((wherryref18_Frame.f k x298000 x298001 x298002 x298003 x298004).bind fun t338 => (if t338 = true then (wherrylaw21_SenderOver.j2 k bt323.2.2.2.2.2.2.2.1 bt323.2.2.2.2.2.2.2.2 false x310000 x310001 x310002 x310003 x310004 x310005 x310006 bt312.1 bt312.2.1 bt312.2.2.1 bt312.2.2.2.1 bt312.2.2.2.2.1 bt312.2.2.2.2.2.1 bt312.2.2.2.2.2.2.1 bt323.1 bt323.2.1 bt323.2.2.1 bt323.2.2.2.1 bt323.2.2.2.2.1 bt323.2.2.2.2.2.1 bt323.2.2.2.2.2.2.1) else (wherrylaw21_SenderOver.j2 k bt323.2.2.2.2.2.2.2.1 bt323.2.2.2.2.2.2.2.2 (bt312.2.2.2.2.2.2.2 != 1) x310000 x310001 x310002 x310003 x310004 x310005 x310006 bt312.1 bt312.2.1 bt312.2.2.1 bt312.2.2.2.1 bt312.2.2.2.2.1 bt312.2.2.2.2.2.1 bt312.2.2.2.2.2.2.1 bt323.1 bt323.2.1 bt323.2.2.1 bt323.2.2.2.1 bt323.2.2.2.2.1 bt323.2.2.2.2.2.1 bt323.2.2.2.2.2.2.1))) else (wherrylaw21_SenderOver.j2 k bt323.2.2.2.2.2.2.2.1 bt323.2.2.2.2.2.2.2.2 true x310000 x310001 x310002 x310003 x310004 x310005 x310006 bt312.1 bt312.2.1 bt312.2.2.1 bt312.2.2.2.1 bt312.2.2.2.2.1 bt312.2.2.2.2.2.1 bt312.2.2.2.2.2.2.1 bt323.1 bt323.2.1 bt323.2.2.1 bt323.2.2.2.1 bt323.2.2.2.2.1 bt323.2.2.2.2.2.1 bt323.2.2.2.2.2.2.1)) else ((wherryref18_Frame.f k x298000 x298001 x298002 x298003 x298004).bind fun t339 => (if t339 = true then (wherrylaw21_SenderOver.j2 k bt323.2.2.2.2.2.2.2.1 bt323.2.2.2.2.2.2.2.2 false x310000 x310001 x310002 x310003 x310004 x310005 x310006 bt312.1 bt312.2.1 bt312.2.2.1 bt312.2.2.2.1 bt312.2.2.2.2.1 bt312.2.2.2.2.2.1 bt312.2.2.2.2.2.2.1 bt323.1 bt323.2.1 bt323.2.2.1 bt323.2.2.2.1 bt323.2.2.2.2.1 bt323.2.2.2.2.2.1 bt323.2.2.2.2.2.2.1) else (wherrylaw21_SenderOver.j2 k bt323.2.2.2.2.2.2.2.1 bt323.2.2.2.2.2.2.2.2 (bt312.2.2.2.2.2.2.2 != 1) x310000 x310001 x310002 x310003 x310004 x310005 x310006 bt312.1 bt312.2.1 bt312.2.2.1 bt312.2.2.2.1 bt312.2.2.2.2.1 bt312.2.2.2.2.2.1 bt312.2.2.2.2.2.2.1 bt323.1 bt323.2.1 bt323.2.2.1 bt323.2.2.2.1 bt323.2.2.2.2.1 bt323.2.2.2.2.2.1 bt323.2.2.2.2.2.2.1)))))))
def wherrylaw21_SenderOver.j2 : Nat → List (S32) → Int → Bool → Int → List Int → Bool → Int → Int → Int → Bool → Int → List Int → Bool → Int → Int → Int → Bool → Int → List Int → Bool → Int → Int → Int → Bool → Option (Bool)
 | 0, _, _, _, _, _, _, _, _, _, _, _, _, _, _, _, _, _, _, _, _, _, _, _, _ => none
 | k + 1, x10, x11, x80, x310000, x310001, x310002, x310003, x310004, x310005, x310006, x323000, x323001, x323002, x323003, x323004, x323005, x323006, x337000, x337001, x337002, x337003, x337004, x337005, x337006 => if x80 = true then (some false) else ((wherrykeep_Send.f k x323000 x323001 x323002 x323003 x323004 x323005 x323006 0 ([] : List Int) false 0 0 0 false).bind fun t340 => (if t340 = true then (if x11 = 0 then (if (x10.length : Int) = 0 then ((wherrykeep_Send.f k x337000 x337001 x337002 x337003 x337004 x337005 x337006 x310000 x310001 x310002 x310003 x310004 x310005 x310006).bind fun t341 => (if t341 = true then ((wherrylaw21_wakes.f k).bind fun t342 => (some t342)) else (some false))) else (some false)) else (some false)) else (some false)))
end
def wherrylaw21_SenderOver.f (k : Nat) (a0_0 : Int) (l0_1 : List Int) (a0_2 : Bool) (a0_3 : Int) (a0_4 : Int) (a0_5 : Int) (a0_6 : Bool) (a1_0 : Int) (a1_1 : Int) (a1_2 : Int) (a1_3 : Int) (l1_4 : List Int) : Option (Bool) := if (l0_1.length : Int) > 5100 then (wherrylaw21_SenderOver.j0 k true a0_0 l0_1 a0_2 a0_3 a0_4 a0_5 a0_6 a1_0 a1_1 a1_2 a1_3 l1_4) else (if (l1_4.length : Int) > 300 then (wherrylaw21_SenderOver.j0 k true a0_0 l0_1 a0_2 a0_3 a0_4 a0_5 a0_6 a1_0 a1_1 a1_2 a1_3 l1_4) else ((wherryref18_Send.f a0_0 l0_1 a0_2 a0_3 a0_4 a0_5 a0_6).bind fun t298 => (wherrylaw21_SenderOver.j0 k (!t298) a0_0 l0_1 a0_2 a0_3 a0_4 a0_5 a0_6 a1_0 a1_1 a1_2 a1_3 l1_4)))
theorem wherrylaw21_SenderOver.mono_l : ∀ k, (∀ y0 y1 y2 y3 y4 y5 y6 y7 y8 y9 y10 y11 y12, LeO (wherrylaw21_SenderOver.j0 k y0 y1 y2 y3 y4 y5 y6 y7 y8 y9 y10 y11 y12) (wherrylaw21_SenderOver.j0 (k + 1) y0 y1 y2 y3 y4 y5 y6 y7 y8 y9 y10 y11 y12)) ∧ (∀ y0 y1 y2 y3 y4 y5 y6 y7 y8 y9 y10 y11 y12, LeO (wherrylaw21_SenderOver.j1 k y0 y1 y2 y3 y4 y5 y6 y7 y8 y9 y10 y11 y12) (wherrylaw21_SenderOver.j1 (k + 1) y0 y1 y2 y3 y4 y5 y6 y7 y8 y9 y10 y11 y12)) ∧ (∀ y0 y1 y2 y3 y4 y5 y6 y7 y8 y9 y10 y11 y12 y13 y14 y15 y16 y17 y18 y19 y20 y21 y22 y23, LeO (wherrylaw21_SenderOver.j2 k y0 y1 y2 y3 y4 y5 y6 y7 y8 y9 y10 y11 y12 y13 y14 y15 y16 y17 y18 y19 y20 y21 y22 y23) (wherrylaw21_SenderOver.j2 (k + 1) y0 y1 y2 y3 y4 y5 y6 y7 y8 y9 y10 y11 y12 y13 y14 y15 y16 y17 y18 y19 y20 y21 y22 y23))
 | 0 => ⟨fun _ _ _ _ _ _ _ _ _ _ _ _ _ r h => by simp [wherrylaw21_SenderOver.j0] at h, fun _ _ _ _ _ _ _ _ _ _ _ _ _ r h => by simp [wherrylaw21_SenderOver.j1] at h, fun _ _ _ _ _ _ _ _ _ _ _ _ _ _ _ _ _ _ _ _ _ _ _ _ r h => by simp [wherrylaw21_SenderOver.j2] at h⟩
 | k + 1 => by
  obtain ⟨ih0, ih1, ih2⟩ := wherrylaw21_SenderOver.mono_l k
  refine ⟨?_, ?_, ?_⟩
  ·intro y0 y1 y2 y3 y4 y5 y6 y7 y8 y9 y10 y11 y12
   unfold wherrylaw21_SenderOver.j0
   repeat' first
   | (with_reducible exact ih0 _ _ _ _ _ _ _ _ _ _ _ _ _)
   | (with_reducible exact ih1 _ _ _ _ _ _ _ _ _ _ _ _ _)
   | (with_reducible exact ih2 _ _ _ _ _ _ _ _ _ _ _ _ _ _ _ _ _ _ _ _ _ _ _ _)
   | (with_reducible exact sender_Hear.mono _ _ _ _ _ _ _ _ _ _ _ _ _)
   | (with_reducible exact sender_Tick.mono _ _ _ _ _ _ _ _)
   | (with_reducible exact wherrykeep_Send.mono _ _ _ _ _ _ _ _ _ _ _ _ _ _ _)
   | (with_reducible exact wherrylaw21_wakes.mono _)
   | (with_reducible exact wherryref18_Frame.mono _ _ _ _ _ _)
   | (with_reducible exact LeO.refl _)
   | (with_reducible exact LeO.none _)
   | (with_reducible refine LeO.ite ?_ ?_)
   | (with_reducible refine LeO.bind ?_ (fun _ => ?_))
   | exact ih0 _ _ _ _ _ _ _ _ _ _ _ _ _
   | exact ih1 _ _ _ _ _ _ _ _ _ _ _ _ _
   | exact ih2 _ _ _ _ _ _ _ _ _ _ _ _ _ _ _ _ _ _ _ _ _ _ _ _
   | exact sender_Hear.mono _ _ _ _ _ _ _ _ _ _ _ _ _
   | exact sender_Tick.mono _ _ _ _ _ _ _ _
   | exact wherrykeep_Send.mono _ _ _ _ _ _ _ _ _ _ _ _ _ _ _
   | exact wherrylaw21_wakes.mono _
   | exact wherryref18_Frame.mono _ _ _ _ _ _
   | exact LeO.none _
   | refine LeO.ite ?_ ?_
   | refine LeO.bind ?_ (fun _ => ?_)
  ·intro y0 y1 y2 y3 y4 y5 y6 y7 y8 y9 y10 y11 y12
   unfold wherrylaw21_SenderOver.j1
   repeat' first
   | (with_reducible exact ih0 _ _ _ _ _ _ _ _ _ _ _ _ _)
   | (with_reducible exact ih1 _ _ _ _ _ _ _ _ _ _ _ _ _)
   | (with_reducible exact ih2 _ _ _ _ _ _ _ _ _ _ _ _ _ _ _ _ _ _ _ _ _ _ _ _)
   | (with_reducible exact sender_Hear.mono _ _ _ _ _ _ _ _ _ _ _ _ _)
   | (with_reducible exact sender_Tick.mono _ _ _ _ _ _ _ _)
   | (with_reducible exact wherrykeep_Send.mono _ _ _ _ _ _ _ _ _ _ _ _ _ _ _)
   | (with_reducible exact wherrylaw21_wakes.mono _)
   | (with_reducible exact wherryref18_Frame.mono _ _ _ _ _ _)
   | (with_reducible exact LeO.refl _)
   | (with_reducible exact LeO.none _)
   | (with_reducible refine LeO.ite ?_ ?_)
   | (with_reducible refine LeO.bind ?_ (fun _ => ?_))
   | exact ih0 _ _ _ _ _ _ _ _ _ _ _ _ _
   | exact ih1 _ _ _ _ _ _ _ _ _ _ _ _ _
   | exact ih2 _ _ _ _ _ _ _ _ _ _ _ _ _ _ _ _ _ _ _ _ _ _ _ _
   | exact sender_Hear.mono _ _ _ _ _ _ _ _ _ _ _ _ _
   | exact sender_Tick.mono _ _ _ _ _ _ _ _
   | exact wherrykeep_Send.mono _ _ _ _ _ _ _ _ _ _ _ _ _ _ _
   | exact wherrylaw21_wakes.mono _
   | exact wherryref18_Frame.mono _ _ _ _ _ _
   | exact LeO.none _
   | refine LeO.ite ?_ ?_
   | refine LeO.bind ?_ (fun _ => ?_)
  ·intro y0 y1 y2 y3 y4 y5 y6 y7 y8 y9 y10 y11 y12 y13 y14 y15 y16 y17 y18 y19 y20 y21 y22 y23
   unfold wherrylaw21_SenderOver.j2
   repeat' first
   | (with_reducible exact ih0 _ _ _ _ _ _ _ _ _ _ _ _ _)
   | (with_reducible exact ih1 _ _ _ _ _ _ _ _ _ _ _ _ _)
   | (with_reducible exact ih2 _ _ _ _ _ _ _ _ _ _ _ _ _ _ _ _ _ _ _ _ _ _ _ _)
   | (with_reducible exact sender_Hear.mono _ _ _ _ _ _ _ _ _ _ _ _ _)
   | (with_reducible exact sender_Tick.mono _ _ _ _ _ _ _ _)
   | (with_reducible exact wherrykeep_Send.mono _ _ _ _ _ _ _ _ _ _ _ _ _ _ _)
   | (with_reducible exact wherrylaw21_wakes.mono _)
   | (with_reducible exact wherryref18_Frame.mono _ _ _ _ _ _)
   | (with_reducible exact LeO.refl _)
   | (with_reducible exact LeO.none _)
   | (with_reducible refine LeO.ite ?_ ?_)
   | (with_reducible refine LeO.bind ?_ (fun _ => ?_))
   | exact ih0 _ _ _ _ _ _ _ _ _ _ _ _ _
   | exact ih1 _ _ _ _ _ _ _ _ _ _ _ _ _
   | exact ih2 _ _ _ _ _ _ _ _ _ _ _ _ _ _ _ _ _ _ _ _ _ _ _ _
   | exact sender_Hear.mono _ _ _ _ _ _ _ _ _ _ _ _ _
   | exact sender_Tick.mono _ _ _ _ _ _ _ _
   | exact wherrykeep_Send.mono _ _ _ _ _ _ _ _ _ _ _ _ _ _ _
   | exact wherrylaw21_wakes.mono _
   | exact wherryref18_Frame.mono _ _ _ _ _ _
   | exact LeO.none _
   | refine LeO.ite ?_ ?_
   | refine LeO.bind ?_ (fun _ => ?_)
theorem wherrylaw21_SenderOver.mono : ∀ a0 a1 a2 a3 a4 a5 a6 a7 a8 a9 a10 a11 k, LeO (wherrylaw21_SenderOver.f k a0 a1 a2 a3 a4 a5 a6 a7 a8 a9 a10 a11) (wherrylaw21_SenderOver.f (k + 1) a0 a1 a2 a3 a4 a5 a6 a7 a8 a9 a10 a11) := by
 intro a0 a1 a2 a3 a4 a5 a6 a7 a8 a9 a10 a11 k
 obtain ⟨ih0, ih1, ih2⟩ := wherrylaw21_SenderOver.mono_l k
 unfold wherrylaw21_SenderOver.f
 repeat' first
   | (with_reducible exact ih0 _ _ _ _ _ _ _ _ _ _ _ _ _)
   | (with_reducible exact ih1 _ _ _ _ _ _ _ _ _ _ _ _ _)
   | (with_reducible exact ih2 _ _ _ _ _ _ _ _ _ _ _ _ _ _ _ _ _ _ _ _ _ _ _ _)
   | (with_reducible exact sender_Hear.mono _ _ _ _ _ _ _ _ _ _ _ _ _)
   | (with_reducible exact sender_Tick.mono _ _ _ _ _ _ _ _)
   | (with_reducible exact wherrykeep_Send.mono _ _ _ _ _ _ _ _ _ _ _ _ _ _ _)
   | (with_reducible exact wherrylaw21_wakes.mono _)
   | (with_reducible exact wherryref18_Frame.mono _ _ _ _ _ _)
   | (with_reducible exact LeO.refl _)
   | (with_reducible exact LeO.none _)
   | (with_reducible refine LeO.ite ?_ ?_)
   | (with_reducible refine LeO.bind ?_ (fun _ => ?_))
   | exact ih0 _ _ _ _ _ _ _ _ _ _ _ _ _
   | exact ih1 _ _ _ _ _ _ _ _ _ _ _ _ _
   | exact ih2 _ _ _ _ _ _ _ _ _ _ _ _ _ _ _ _ _ _ _ _ _ _ _ _
   | exact sender_Hear.mono _ _ _ _ _ _ _ _ _ _ _ _ _
   | exact sender_Tick.mono _ _ _ _ _ _ _ _
   | exact wherrykeep_Send.mono _ _ _ _ _ _ _ _ _ _ _ _ _ _ _
   | exact wherrylaw21_wakes.mono _
   | exact wherryref18_Frame.mono _ _ _ _ _ _
   | exact LeO.none _
   | refine LeO.ite ?_ ?_
   | refine LeO.bind ?_ (fun _ => ?_)
set_option maxHeartbeats 8000000 in
set_option maxRecDepth 100000 in
theorem wherrylaw21_SenderOver.calls (k : Nat) (a0_0 : Int) (A0_1 : Option Addr) (c0_1 : Nat) (l0_1 : List Int) (a0_2 : Bool) (a0_3 : Int) (a0_4 : Int) (a0_5 : Int) (a0_6 : Bool) (a1_0 : Int) (a1_1 : Int) (a1_2 : Int) (a1_3 : Int) (A1_4 : Option Addr) (c1_4 : Nat) (l1_4 : List Int) (r : Bool) (w : World) (hr0_1 : Kd.C (Kd.int .u8) w A0_1 l0_1.length l0_1) (hc0_1 : l0_1.length ≤ c0_1) (hr1_4 : Kd.C (Kd.int .u8) w A1_4 l1_4.length l1_4) (hc1_4 : l1_4.length ≤ c1_4) (h : wherrylaw21_SenderOver.f k a0_0 l0_1 a0_2 a0_3 a0_4 a0_5 a0_6 a1_0 a1_1 a1_2 a1_3 l1_4 = some r) :
  Calls Try.prog 7 #[.agg #[.int .i64 a0_0, .slice A0_1 l0_1.length c0_1, .bool a0_2, .int .i64 a0_3, .int .i64 a0_4, .int .i64 a0_5, .bool a0_6], .agg #[.int .i64 a1_0, .int .i64 a1_1, .int .i64 a1_2, .int .i64 a1_3, .slice A1_4 l1_4.length c1_4]] w fun e w' => e = .returned (.bool r) ∧ Below w.heap.size w w' := by
 have hu24 := Try.underlying24
 have hu32 := Try.underlying32
 have HR0_1 := Aside0.mk hr0_1
 have HC0_1 := Aside0.mk hc0_1
 clear hr0_1 hc0_1
 have HR1_4 := Aside0.mk hr1_4
 have HC1_4 := Aside0.mk hc1_4
 clear hr1_4 hc1_4
 have HB := Aside0.mk (Below.refl w.heap.size w)
 have H : (if (l0_1.length : Int) > 5100 then (wherrylaw21_SenderOver.j0 k true a0_0 l0_1 a0_2 a0_3 a0_4 a0_5 a0_6 a1_0 a1_1 a1_2 a1_3 l1_4) else (if (l1_4.length : Int) > 300 then (wherrylaw21_SenderOver.j0 k true a0_0 l0_1 a0_2 a0_3 a0_4 a0_5 a0_6 a1_0 a1_1 a1_2 a1_3 l1_4) else ((wherryref18_Send.f a0_0 l0_1 a0_2 a0_3 a0_4 a0_5 a0_6).bind fun t298 => (wherrylaw21_SenderOver.j0 k (!t298) a0_0 l0_1 a0_2 a0_3 a0_4 a0_5 a0_6 a1_0 a1_1 a1_2 a1_3 l1_4)))) = some r := h
 clear h
 have HC3 := Aside0.mk H
 clear H
 go_enter Try.func7, Try.ntmps7
 go_upto_region 1 with (first | ((with_reducible refine gate_dst (N := 2) rfl ?_); (try (refine gate_guard (by rfl) ?_; dsimp only)); refine box_event ?hg (N := 2) ?hd (cs := #[.int .i64 a0_0, .slice A0_1 l0_1.length c0_1, .bool a0_2, .int .i64 a0_3, .int .i64 a0_4, .int .i64 a0_5, .bool a0_6]) (t := 24) ?hr ?_; (case hd => rfl); (case hg => rfl); (case hr => first | (go_simp; done) | (go_simp; rfl)); intro gb296 hg w4 hbox hb; have n0_ := Aside0.mk (below_step (by first | with_reducible exact HB.out | exact sB HB.out) hb); have n1_ := Aside0.mk (hbox); have n2_ := Aside0.mk ((by rw [hg]; exact (below_size (by first | with_reducible exact HB.out | exact sB HB.out)) : w.heap.size ≤ gb296)); have n3_ := Aside0.mk ((by rw [hg]; exact (below_size (by first | with_reducible exact HB.out | exact sB HB.out)) : w.heap.size ≤ gb296)); clear HB; have HB := n0_; have BK296 := n1_; have GW296 := n2_; have GE296 := n3_; clear n0_ n1_ n2_ n3_; clear hb hbox hg) | ((with_reducible refine gate_dst (N := 3) rfl ?_); (try (refine gate_guard (by rfl) ?_; dsimp only)); refine box_event ?hg (N := 3) ?hd (cs := #[.int .i64 a1_0, .int .i64 a1_1, .int .i64 a1_2, .int .i64 a1_3, .slice A1_4 l1_4.length c1_4]) (t := 32) ?hr ?_; (case hd => rfl); (case hg => rfl); (case hr => first | (go_simp; done) | (go_simp; rfl)); intro gb297 hg w5 hbox hb; have n0_ := Aside0.mk (bK BK296.out hb); have n1_ := Aside0.mk (below_step (by repeat (first | (with_reducible first | exact HB.out | apply b1 | apply b2 | apply b3 | refine below_set ?_ GE296.out) | exact HB.out)) hb); have n2_ := Aside0.mk (hbox); have n3_ := Aside0.mk ((by rw [hg]; exact (below_size (by repeat (first | (with_reducible first | exact HB.out | apply b1 | apply b2 | apply b3 | refine below_set ?_ GE296.out) | exact HB.out))) : w.heap.size ≤ gb297)); have n4_ := Aside0.mk ((by rw [hg]; exact (below_size (by repeat (first | (with_reducible first | exact HB.out | apply b1 | apply b2 | apply b3 | refine below_set ?_ GE296.out) | exact HB.out))) : w.heap.size ≤ gb297)); have n5_ := Aside0.mk ((by rw [hg]; exact Nat.ne_of_lt (blk_lt (g := gb296) (o := .cells #[.int .i64 a0_0, .slice A0_1 l0_1.length c0_1, .bool a0_2, .int .i64 a0_3, .int .i64 a0_4, .int .i64 a0_5, .bool a0_6] 24 (0, 0)) (by first | with_reducible exact BK296.out | exact sK BK296.out)) : gb296 ≠ gb297)); have n6_ := Aside0.mk ((by rw [hg]; exact Nat.ne_of_gt (blk_lt (g := gb296) (o := .cells #[.int .i64 a0_0, .slice A0_1 l0_1.length c0_1, .bool a0_2, .int .i64 a0_3, .int .i64 a0_4, .int .i64 a0_5, .bool a0_6] 24 (0, 0)) (by first | with_reducible exact BK296.out | exact sK BK296.out)) : gb297 ≠ gb296)); clear BK296; clear HB; have BK296 := n0_; have HB := n1_; have BK297 := n2_; have GW297 := n3_; have GE297 := n4_; have NB296_297 := n5_; have NB297_296 := n6_; clear n0_ n1_ n2_ n3_ n4_ n5_ n6_; clear hb hbox hg))
 (try simp only [Act.put, List.setIfInBounds_toArray, List.set_cons_zero, List.set_cons_succ])
 go_cut [26] (fun v26 wc => ∃ (kq : Nat) (x26_2 : Bool), v26 = .bool x26_2 ∧ Aside0 (wherrylaw21_SenderOver.j0 kq x26_2 a0_0 l0_1 a0_2 a0_3 a0_4 a0_5 a0_6 a1_0 a1_1 a1_2 a1_3 l1_4 = some r) ∧ Aside0 (kq ≤ k) ∧ Aside0 (wc.heap[gb296]? = some (.cells #[.int .i64 a0_0, (.slice A0_1 l0_1.length c0_1), .bool a0_2, .int .i64 a0_3, .int .i64 a0_4, .int .i64 a0_5, .bool a0_6] 24 (0, 0))) ∧ Aside0 (wc.heap[gb297]? = some (.cells #[.int .i64 a1_0, .int .i64 a1_1, .int .i64 a1_2, .int .i64 a1_3, (.slice A1_4 l1_4.length c1_4)] 32 (0, 0))) ∧ Aside0 (Below w.heap.size w wc))
 case first =>
  have H := HC3.out
  clear HC3
  by_cases c6 : (l0_1.length : Int) > 5100
  ·rw [if_pos c6] at H
   have c6b0 : decide (5100 < (l0_1.length : Int)) = true := decide_eq_true c6
   have c6b1 : decide (5100 < l0_1.length) = true := decide_eq_true (by omega)
   clear c6
   (first | rw [c6b0] | (simp only [i64_w, i32_w]; rw [c6b0]) | skip)
   have H' := Aside0.mk H
   clear H
   have hnb7 := NB296_297.out
   have hnc7 := NB297_296.out
   obtain ⟨hcz8_0, hcz8_1, hcz8_2, hcz8_3, hcz8_4, hcz8_5, hcz8_6, hfz8_0, hfz8_1, hfz8_2, hfz8_3, hfz8_4, hfz8_5, hfz8_6⟩ := cells7 BK296.out
   go_wp2
   go_meet
   case rel => exact ⟨_, (true), (by first | rfl | (simp; done) | (simp [*]; done)), H', ⟨by first | omega | exact Nat.le_refl _⟩, ⟨by (with_reducible repeat (first | refine k2 ?_ _ | refine k3 ?_ | refine k1 ?_ _)); exact BK296.out⟩, ⟨by (with_reducible repeat (first | refine k2 ?_ _ | refine k3 ?_ | refine k1 ?_ _)); exact BK297.out⟩, ⟨by repeat (first | (with_reducible first | exact HB.out | apply b1 | apply b2 | apply b3 | refine below_set ?_ GE296.out | refine below_set ?_ GE297.out) | exact HB.out)⟩⟩
  ·rw [if_neg c6] at H
   have c6b0 : decide (5100 < (l0_1.length : Int)) = false := decide_eq_false c6
   have c6b1 : decide (5100 < l0_1.length) = false := decide_eq_false (by omega)
   clear c6
   (first | rw [c6b0] | (simp only [i64_w, i32_w]; rw [c6b0]) | skip)
   by_cases c9 : (l1_4.length : Int) > 300
   ·rw [if_pos c9] at H
    have c9b0 : decide (300 < (l1_4.length : Int)) = true := decide_eq_true c9
    have c9b1 : decide (300 < l1_4.length) = true := decide_eq_true (by omega)
    clear c9
    have H' := Aside0.mk H
    clear H
    have hnb10 := NB296_297.out
    have hnc10 := NB297_296.out
    obtain ⟨hcz11_0, hcz11_1, hcz11_2, hcz11_3, hcz11_4, hcz11_5, hcz11_6, hfz11_0, hfz11_1, hfz11_2, hfz11_3, hfz11_4, hfz11_5, hfz11_6⟩ := cells7 BK296.out
    obtain ⟨hcz12_0, hcz12_1, hcz12_2, hcz12_3, hcz12_4, hfz12_0, hfz12_1, hfz12_2, hfz12_3, hfz12_4⟩ := cells5 BK297.out
    go_wp2
    go_meet
    case rel => exact ⟨_, (true), (by first | rfl | (simp; done) | (simp [*]; done)), H', ⟨by first | omega | exact Nat.le_refl _⟩, ⟨by (with_reducible repeat (first | refine k2 ?_ _ | refine k3 ?_ | refine k1 ?_ _)); exact BK296.out⟩, ⟨by (with_reducible repeat (first | refine k2 ?_ _ | refine k3 ?_ | refine k1 ?_ _)); exact BK297.out⟩, ⟨by repeat (first | (with_reducible first | exact HB.out | apply b1 | apply b2 | apply b3 | refine below_set ?_ GE296.out | refine below_set ?_ GE297.out) | exact HB.out)⟩⟩
   ·rw [if_neg c9] at H
    have c9b0 : decide (300 < (l1_4.length : Int)) = false := decide_eq_false c9
    have c9b1 : decide (300 < l1_4.length) = false := decide_eq_false (by omega)
    clear c9
    replace H := Option.bind_eq_some_iff.mp H
    obtain ⟨t298, A130, H⟩ := H
    replace H : (wherrylaw21_SenderOver.j0 k (!t298) a0_0 l0_1 a0_2 a0_3 a0_4 a0_5 a0_6 a1_0 a1_1 a1_2 a1_3 l1_4) = some r := H
    have A13 := Aside0.mk A130
    clear A130
    have H' := Aside0.mk H
    clear H
    have hnb14 := NB296_297.out
    have hnc14 := NB297_296.out
    obtain ⟨hcz15_0, hcz15_1, hcz15_2, hcz15_3, hcz15_4, hcz15_5, hcz15_6, hfz15_0, hfz15_1, hfz15_2, hfz15_3, hfz15_4, hfz15_5, hfz15_6⟩ := cells7 BK296.out
    obtain ⟨hcz16_0, hcz16_1, hcz16_2, hcz16_3, hcz16_4, hfz16_0, hfz16_1, hfz16_2, hfz16_3, hfz16_4⟩ := cells5 BK297.out
    go_wp2_with (first | (go_at_call 10; (with_reducible refine (wherryref18_Send.calls a0_0 _ _ l0_1 a0_2 a0_3 a0_4 a0_5 a0_6 t298 _ ?side1 ?side2 A13.out).mono ?_); (case side1 => first | with_reducible exact (Kd.C_below HR0_1.out HB.out) | exact sC ((Kd.C_below HR0_1.out HB.out))); (case side2 => exact HC0_1.out); rintro e w17 ⟨rfl, hb⟩; have n0_ := Aside0.mk (bK BK296.out hb); have n1_ := Aside0.mk (bK BK297.out hb); have n2_ := Aside0.mk (below_step (by repeat (first | (with_reducible first | exact HB.out | apply b1 | apply b2 | apply b3 | refine below_set ?_ GE296.out | refine below_set ?_ GE297.out) | exact HB.out)) hb); clear BK296; clear BK297; clear HB; have BK296 := n0_; have BK297 := n1_; have HB := n2_; clear n0_ n1_ n2_; (try clear hb); (try clear hb2); (try clear hk); (try clear hi)))
    go_meet
    case rel => exact ⟨_, (!t298), (by first | rfl | (simp; done) | (simp [*]; done)), H', ⟨by first | omega | exact Nat.le_refl _⟩, ⟨by (with_reducible repeat (first | refine k2 ?_ _ | refine k3 ?_ | refine k1 ?_ _)); exact BK296.out⟩, ⟨by (with_reducible repeat (first | refine k2 ?_ _ | refine k3 ?_ | refine k1 ?_ _)); exact BK297.out⟩, ⟨by repeat (first | (with_reducible first | exact HB.out | apply b1 | apply b2 | apply b3 | refine below_set ?_ GE296.out | refine below_set ?_ GE297.out) | exact HB.out)⟩⟩
 case rest =>
  clear HC3
  try clear c1
  try clear p2
  try clear c6
  try clear c6b0
  try clear c6b1
  try clear c7
  try clear c9
  try clear c9b0
  try clear c9b1
  try clear c10
  try clear c14
  try clear hcz11_0
  try clear hcz11_1
  try clear hcz11_2
  try clear hcz11_3
  try clear hcz11_4
  try clear hcz11_5
  try clear hcz11_6
  try clear hcz12_0
  try clear hcz12_1
  try clear hcz12_2
  try clear hcz12_3
  try clear hcz12_4
  try clear hcz15_0
  try clear hcz15_1
  try clear hcz15_2
  try clear hcz15_3
  try clear hcz15_4
  try clear hcz15_5
  try clear hcz15_6
  try clear hcz16_0
  try clear hcz16_1
  try clear hcz16_2
  try clear hcz16_3
  try clear hcz16_4
  try clear hcz8_0
  try clear hcz8_1
  try clear hcz8_2
  try clear hcz8_3
  try clear hcz8_4
  try clear hcz8_5
  try clear hcz8_6
  try clear hfz11_0
  try clear hfz11_1
  try clear hfz11_2
  try clear hfz11_3
  try clear hfz11_4
  try clear hfz11_5
  try clear hfz11_6
  try clear hfz12_0
  try clear hfz12_1
  try clear hfz12_2
  try clear hfz12_3
  try clear hfz12_4
  try clear hfz15_0
  try clear hfz15_1
  try clear hfz15_2
  try clear hfz15_3
  try clear hfz15_4
  try clear hfz15_5
  try clear hfz15_6
  try clear hfz16_0
  try clear hfz16_1
  try clear hfz16_2
  try clear hfz16_3
  try clear hfz16_4
  try clear hfz8_0
  try clear hfz8_1
  try clear hfz8_2
  try clear hfz8_3
  try clear hfz8_4
  try clear hfz8_5
  try clear hfz8_6
  obtain ⟨kq, x26_2, rfl, HA, HJ2, BK296, BK297, HB⟩ := hcut
  cases kq with
  | zero => exact absurd HA.out (by simp [wherrylaw21_SenderOver.j0])
  | succ kj2 =>
   have H := HA.out
   clear HA
   simp only [wherrylaw21_SenderOver.j0] at H
   by_cases c18 : x26_2 = true
   ·subst c18
    have H1 : (some true) = some r := by rw [if_pos rfl] at H; exact H
    clear H
    have H := H1
    clear H1
    obtain rfl := Option.some.inj H
    go_wp2
    go_ret
    exact ⟨by first | rfl | (simp [errW_none, errW_some] <;> rfl) | (simp [*, errW_none, errW_some] <;> rfl), by repeat (first | (with_reducible first | exact HB.out | apply b1 | apply b2 | apply b3 | refine below_set ?_ GE296.out | refine below_set ?_ GE297.out) | exact HB.out)⟩
   ·replace c18 := Bool.eq_false_iff.mpr c18
    subst c18
    have H1 : ((sender_Hear.f kj2 a0_0 l0_1 a0_2 a0_3 a0_4 a0_5 a0_6 5 a0_0 0 0 ([] : List Int)).bind fun bt299 => (if a0_6 = true then (if bt299.2.2.2.2.2.2.2 = 11 then ((wherrykeep_Send.f kj2 bt299.1 bt299.2.1 bt299.2.2.1 bt299.2.2.2.1 bt299.2.2.2.2.1 bt299.2.2.2.2.2.1 bt299.2.2.2.2.2.2.1 0 ([] : List Int) false 0 0 0 false).bind fun t310 => (if t310 = true then ((wherrylaw21_wakes.f kj2).bind fun t311 => (some t311)) else (some false))) else (some false)) else (if bt299.2.2.2.2.2.2.2 = 0 then (wherrylaw21_SenderOver.j1 kj2 (!bt299.2.2.2.2.2.2.1) a1_0 a1_1 a1_2 a1_3 l1_4 bt299.1 bt299.2.1 bt299.2.2.1 bt299.2.2.2.1 bt299.2.2.2.2.1 bt299.2.2.2.2.2.1 bt299.2.2.2.2.2.2.1) else (wherrylaw21_SenderOver.j1 kj2 true a1_0 a1_1 a1_2 a1_3 l1_4 bt299.1 bt299.2.1 bt299.2.2.1 bt299.2.2.2.1 bt299.2.2.2.2.1 bt299.2.2.2.2.2.1 bt299.2.2.2.2.2.2.1)))) = some r := by rw [if_neg (show ¬ (false = true) by decide)] at H; exact H
    clear H
    have H := H1
    clear H1
    replace H := Option.bind_eq_some_iff.mp H
    obtain ⟨⟨t299, t300, t303, t304, t305, t306, t307, t308⟩, A190, H⟩ := H
    replace H : (if a0_6 = true then (if t308 = 11 then ((wherrykeep_Send.f kj2 t299 t300 t303 t304 t305 t306 t307 0 ([] : List Int) false 0 0 0 false).bind fun t310 => (if t310 = true then ((wherrylaw21_wakes.f kj2).bind fun t311 => (some t311)) else (some false))) else (some false)) else (if t308 = 0 then (wherrylaw21_SenderOver.j1 kj2 (!t307) a1_0 a1_1 a1_2 a1_3 l1_4 t299 t300 t303 t304 t305 t306 t307) else (wherrylaw21_SenderOver.j1 kj2 true a1_0 a1_1 a1_2 a1_3 l1_4 t299 t300 t303 t304 t305 t306 t307))) = some r := H
    have A19 := Aside0.mk A190
    clear A190
    by_cases c20 : a0_6 = true
    ·subst c20
     have H1 : (if t308 = 11 then ((wherrykeep_Send.f kj2 t299 t300 t303 t304 t305 t306 t307 0 ([] : List Int) false 0 0 0 false).bind fun t310 => (if t310 = true then ((wherrylaw21_wakes.f kj2).bind fun t311 => (some t311)) else (some false))) else (some false)) = some r := by rw [if_pos rfl] at H; exact H
     clear H
     have H := H1
     clear H1
     by_cases c21 : t308 = 11
     ·rw [if_pos c21] at H
      have c21b0 : (t308 == 11) = true := beq_iff_eq.mpr c21
      have c21b1 : (t308 != 11) = false := bne_eq_false_iff_eq.mpr c21
      clear c21
      replace H := Option.bind_eq_some_iff.mp H
      obtain ⟨t310, A220, H⟩ := H
      replace H : (if t310 = true then ((wherrylaw21_wakes.f kj2).bind fun t311 => (some t311)) else (some false)) = some r := H
      have A22 := Aside0.mk A220
      clear A220
      by_cases c23 : t310 = true
      ·subst c23
       have H1 : ((wherrylaw21_wakes.f kj2).bind fun t311 => (some t311)) = some r := by rw [if_pos rfl] at H; exact H
       clear H
       have H := H1
       clear H1
       replace H := Option.bind_eq_some_iff.mp H
       obtain ⟨t311, A240, H⟩ := H
       replace H : (some t311) = some r := H
       have A24 := Aside0.mk A240
       clear A240
       obtain rfl := Option.some.inj H
       have hnb25 := NB296_297.out
       have hnc25 := NB297_296.out
       obtain ⟨hcz26_0, hcz26_1, hcz26_2, hcz26_3, hcz26_4, hcz26_5, hcz26_6, hfz26_0, hfz26_1, hfz26_2, hfz26_3, hfz26_4, hfz26_5, hfz26_6⟩ := cells7 BK296.out
       go_wp2_with (first | ((with_reducible refine gate_callee (f := 16) rfl ?_); refine goesL_ (some 32) rfl rfl Try.func16 (by kernel_rfl) rfl #[.agg #[.int .i64 a0_0, .slice A0_1 l0_1.length c0_1, .bool a0_2, .int .i64 a0_3, .int .i64 a0_4, .int .i64 a0_5, .bool true], .agg #[.int .i64 5, .int .i64 a0_0, .int .i64 0, .int .i64 0, .slice none 0 0]] rfl (by (try simp only [List.map_toArray, List.map_cons, List.map_nil]); first | done | rfl | (simp only [List.length_drop, List.length_take]; rfl) | (go_simp; done) | (go_simp; rfl)) ?_; (refine (sender_Hear.calls kj2 a0_0 _ _ l0_1 a0_2 a0_3 a0_4 a0_5 true 5 a0_0 0 0 _ _ ([] : List Int) t299 t300 t303 t304 t305 t306 t307 t308 _ ?side1 ?side2 ?side3 ?side4 A19.out).mono ?_); (case side1 => first | with_reducible exact (Kd.C_below HR0_1.out HB.out) | exact sC ((Kd.C_below HR0_1.out HB.out))); (case side2 => exact HC0_1.out); (case side3 => exact Kd.C_nil _ _); (case side4 => exact Nat.le_refl _); rintro e w27 ⟨v301, rfl, ho0, hb⟩; refine ⟨_, rfl, ?_⟩; have n0_ := Aside0.mk (Kd.R_lower ho0 (below_size (by repeat (first | (with_reducible first | exact HB.out | apply b1 | apply b2 | apply b3 | refine below_set ?_ GE296.out | refine below_set ?_ GE297.out) | exact HB.out)))); have n1_ := Aside0.mk (bK BK296.out hb); have n2_ := Aside0.mk (bK BK297.out hb); have n3_ := Aside0.mk (below_step (by repeat (first | (with_reducible first | exact HB.out | apply b1 | apply b2 | apply b3 | refine below_set ?_ GE296.out | refine below_set ?_ GE297.out) | exact HB.out)) hb); clear BK296; clear BK297; clear HB; have HO302 := n0_; have BK296 := n1_; have BK297 := n2_; have HB := n3_; clear n0_ n1_ n2_ n3_; (try clear hb); (try clear hb2); (try clear hk); (try clear hi); (try clear ho0)) | ((with_reducible refine gate_dst (N := 5) rfl ?_); (try (refine gate_guard (by rfl) ?_; dsimp only)); refine box_event ?hg (N := 5) ?hd (cs := #[.int .i64 0, .slice none 0 0, .bool false, .int .i64 0, .int .i64 0, .int .i64 0, .bool false]) (t := 24) ?hr ?_; (case hd => rfl); (case hg => rfl); (case hr => first | (go_simp; done) | (go_simp; rfl)); intro gb309 hg w28 hbox hb; have n0_ := Aside0.mk (bR HO302.out hb); have n1_ := Aside0.mk (bK BK296.out hb); have n2_ := Aside0.mk (bK BK297.out hb); have n3_ := Aside0.mk (below_step (by repeat (first | (with_reducible first | exact HB.out | apply b1 | apply b2 | apply b3 | refine below_set ?_ GE296.out | refine below_set ?_ GE297.out) | exact HB.out)) hb); have n4_ := Aside0.mk (hbox); have n5_ := Aside0.mk ((by rw [hg]; exact (below_size (by repeat (first | (with_reducible first | exact HB.out | apply b1 | apply b2 | apply b3 | refine below_set ?_ GE296.out | refine below_set ?_ GE297.out) | exact HB.out))) : w.heap.size ≤ gb309)); have n6_ := Aside0.mk ((by rw [hg]; exact (below_size (by repeat (first | (with_reducible first | exact HB.out | apply b1 | apply b2 | apply b3 | refine below_set ?_ GE296.out | refine below_set ?_ GE297.out) | exact HB.out))) : w.heap.size ≤ gb309)); have n7_ := Aside0.mk ((by rw [hg]; exact Nat.ne_of_lt (blk_lt (g := gb296) (o := .cells #[.int .i64 a0_0, .slice A0_1 l0_1.length c0_1, .bool a0_2, .int .i64 a0_3, .int .i64 a0_4, .int .i64 a0_5, .bool true] 24 (0, 0)) (by first | with_reducible exact BK296.out | exact sK BK296.out)) : gb296 ≠ gb309)); have n8_ := Aside0.mk ((by rw [hg]; exact Nat.ne_of_gt (blk_lt (g := gb296) (o := .cells #[.int .i64 a0_0, .slice A0_1 l0_1.length c0_1, .bool a0_2, .int .i64 a0_3, .int .i64 a0_4, .int .i64 a0_5, .bool true] 24 (0, 0)) (by first | with_reducible exact BK296.out | exact sK BK296.out)) : gb309 ≠ gb296)); have n9_ := Aside0.mk ((by rw [hg]; exact Nat.ne_of_lt (blk_lt (g := gb297) (o := .cells #[.int .i64 a1_0, .int .i64 a1_1, .int .i64 a1_2, .int .i64 a1_3, .slice A1_4 l1_4.length c1_4] 32 (0, 0)) (by first | with_reducible exact BK297.out | exact sK BK297.out)) : gb297 ≠ gb309)); have n10_ := Aside0.mk ((by rw [hg]; exact Nat.ne_of_gt (blk_lt (g := gb297) (o := .cells #[.int .i64 a1_0, .int .i64 a1_1, .int .i64 a1_2, .int .i64 a1_3, .slice A1_4 l1_4.length c1_4] 32 (0, 0)) (by first | with_reducible exact BK297.out | exact sK BK297.out)) : gb309 ≠ gb297)); clear HO302; clear BK296; clear BK297; clear HB; have HO302 := n0_; have BK296 := n1_; have BK297 := n2_; have HB := n3_; have BK309 := n4_; have GW309 := n5_; have GE309 := n6_; have NB296_309 := n7_; have NB309_296 := n8_; have NB297_309 := n9_; have NB309_297 := n10_; clear n0_ n1_ n2_ n3_ n4_ n5_ n6_ n7_ n8_ n9_ n10_; clear hb hbox hg; have hnb29 := NB309_296.out; have hnc29 := NB296_309.out; have hnb30 := NB309_297.out; have hnc30 := NB297_309.out; obtain ⟨hcz31_0, hcz31_1, hcz31_2, hcz31_3, hcz31_4, hcz31_5, hcz31_6, hfz31_0, hfz31_1, hfz31_2, hfz31_3, hfz31_4, hfz31_5, hfz31_6⟩ := cells7 BK309.out; obtain ⟨Ao32, co32, eo32⟩ := Kd.R_slice HO302.out; subst eo32; obtain ⟨hcz33_0, hcz33_1, hcz33_2, hcz33_3, hcz33_4, hcz33_5, hcz33_6, hfz33_0, hfz33_1, hfz33_2, hfz33_3, hfz33_4, hfz33_5, hfz33_6⟩ := cells7 BK296.out) | (go_at_call 21; (refine (wherrykeep_Send.calls kj2 t299 _ _ t300 t303 t304 t305 t306 t307 0 _ _ ([] : List Int) false 0 0 0 false true _ ?side1 ?side2 ?side3 ?side4 A22.out).mono ?_); (case side1 => refine (Kd.R_reads' (e := 5) (base := w.heap.size) (ok := fun k_ => True) (n := t300.length) (c := co32) ?_).2.2; exact (by (with_reducible repeat (first | apply R1 | apply R2 | apply R3)); exact (Kd.R_mono (Kd.R_far (p := ⟨gb309, 6, none⟩) (Kd.R_far (p := ⟨gb309, 5, none⟩) (Kd.R_far (p := ⟨gb309, 4, none⟩) (Kd.R_far (p := ⟨gb309, 3, none⟩) (Kd.R_far (p := ⟨gb309, 2, none⟩) (Kd.R_far (p := ⟨gb309, 1, none⟩) (Kd.R_far (p := ⟨gb309, 0, none⟩) (Kd.R_types HO302.out BK309.out (by decide)) (fun _ hk => hk.2) (.int .i64 t299)) (fun _ hk => hk.2) (.slice Ao32 t300.length co32)) (fun _ hk => hk.2) (.bool t303)) (fun _ hk => hk.2) (.int .i64 t304)) (fun _ hk => hk.2) (.int .i64 t305)) (fun _ hk => hk.2) (.int .i64 t306)) (fun _ hk => hk.2) (.bool t307)) (fun _ h_ => h_.1)))); (case side2 => exact (Kd.R_reads' HO302.out).2.1); (case side3 => exact Kd.C_nil _ _); (case side4 => exact Nat.le_refl _); rintro e w34 ⟨rfl, hb⟩; have n0_ := Aside0.mk (Kd.R_below (by (with_reducible repeat (first | apply R1 | apply R2 | apply R3)); exact (Kd.R_mono (Kd.R_far (p := ⟨gb309, 6, none⟩) (Kd.R_far (p := ⟨gb309, 5, none⟩) (Kd.R_far (p := ⟨gb309, 4, none⟩) (Kd.R_far (p := ⟨gb309, 3, none⟩) (Kd.R_far (p := ⟨gb309, 2, none⟩) (Kd.R_far (p := ⟨gb309, 1, none⟩) (Kd.R_far (p := ⟨gb309, 0, none⟩) (Kd.R_types HO302.out BK309.out (by decide)) (fun _ hk => hk.2) (.int .i64 t299)) (fun _ hk => hk.2) (.slice Ao32 t300.length co32)) (fun _ hk => hk.2) (.bool t303)) (fun _ hk => hk.2) (.int .i64 t304)) (fun _ hk => hk.2) (.int .i64 t305)) (fun _ hk => hk.2) (.int .i64 t306)) (fun _ hk => hk.2) (.bool t307)) (fun _ h_ => h_.1))) hb); have n1_ := Aside0.mk (blk_below (g := gb296) (o := .cells #[.int .i64 a0_0, .slice A0_1 l0_1.length c0_1, .bool a0_2, .int .i64 a0_3, .int .i64 a0_4, .int .i64 a0_5, .bool true] 24 (0, 0)) (by (with_reducible repeat (first | refine k2 ?_ _ | refine k3 ?_ | refine k1 ?_ _)); refine blk_far ?_ NB296_309.out _; (with_reducible repeat (first | refine k2 ?_ _ | refine k3 ?_ | refine k1 ?_ _)); refine blk_far ?_ NB296_309.out _; (with_reducible repeat (first | refine k2 ?_ _ | refine k3 ?_ | refine k1 ?_ _)); refine blk_far ?_ NB296_309.out _; (with_reducible repeat (first | refine k2 ?_ _ | refine k3 ?_ | refine k1 ?_ _)); refine blk_far ?_ NB296_309.out _; (with_reducible repeat (first | refine k2 ?_ _ | refine k3 ?_ | refine k1 ?_ _)); refine blk_far ?_ NB296_309.out _; (with_reducible repeat (first | refine k2 ?_ _ | refine k3 ?_ | refine k1 ?_ _)); refine blk_far ?_ NB296_309.out _; (with_reducible repeat (first | refine k2 ?_ _ | refine k3 ?_ | refine k1 ?_ _)); refine blk_far ?_ NB296_309.out _; (with_reducible repeat (first | refine k2 ?_ _ | refine k3 ?_ | refine k1 ?_ _)); exact BK296.out) hb); have n2_ := Aside0.mk (blk_below (g := gb297) (o := .cells #[.int .i64 a1_0, .int .i64 a1_1, .int .i64 a1_2, .int .i64 a1_3, .slice A1_4 l1_4.length c1_4] 32 (0, 0)) (by (with_reducible repeat (first | refine k2 ?_ _ | refine k3 ?_ | refine k1 ?_ _)); refine blk_far ?_ NB297_309.out _; (with_reducible repeat (first | refine k2 ?_ _ | refine k3 ?_ | refine k1 ?_ _)); refine blk_far ?_ NB297_309.out _; (with_reducible repeat (first | refine k2 ?_ _ | refine k3 ?_ | refine k1 ?_ _)); refine blk_far ?_ NB297_309.out _; (with_reducible repeat (first | refine k2 ?_ _ | refine k3 ?_ | refine k1 ?_ _)); refine blk_far ?_ NB297_309.out _; (with_reducible repeat (first | refine k2 ?_ _ | refine k3 ?_ | refine k1 ?_ _)); refine blk_far ?_ NB297_309.out _; (with_reducible repeat (first | refine k2 ?_ _ | refine k3 ?_ | refine k1 ?_ _)); refine blk_far ?_ NB297_309.out _; (with_reducible repeat (first | refine k2 ?_ _ | refine k3 ?_ | refine k1 ?_ _)); refine blk_far ?_ NB297_309.out _; (with_reducible repeat (first | refine k2 ?_ _ | refine k3 ?_ | refine k1 ?_ _)); exact BK297.out) hb); have n3_ := Aside0.mk (blk_below (g := gb309) (o := .cells #[.int .i64 t299, .slice Ao32 t300.length co32, .bool t303, .int .i64 t304, .int .i64 t305, .int .i64 t306, .bool t307] 24 (0, 0)) (by (with_reducible repeat (first | refine k2 ?_ _ | refine k3 ?_ | refine k1 ?_ _)); refine blk_put (cs := #[.int .i64 t299, .slice Ao32 t300.length co32, .bool t303, .int .i64 t304, .int .i64 t305, .int .i64 t306, .bool false]) ?_ 6 _ rfl; (with_reducible repeat (first | refine k2 ?_ _ | refine k3 ?_ | refine k1 ?_ _)); refine blk_put (cs := #[.int .i64 t299, .slice Ao32 t300.length co32, .bool t303, .int .i64 t304, .int .i64 t305, .int .i64 0, .bool false]) ?_ 5 _ rfl; (with_reducible repeat (first | refine k2 ?_ _ | refine k3 ?_ | refine k1 ?_ _)); refine blk_put (cs := #[.int .i64 t299, .slice Ao32 t300.length co32, .bool t303, .int .i64 t304, .int .i64 0, .int .i64 0, .bool false]) ?_ 4 _ rfl; (with_reducible repeat (first | refine k2 ?_ _ | refine k3 ?_ | refine k1 ?_ _)); refine blk_put (cs := #[.int .i64 t299, .slice Ao32 t300.length co32, .bool t303, .int .i64 0, .int .i64 0, .int .i64 0, .bool false]) ?_ 3 _ rfl; (with_reducible repeat (first | refine k2 ?_ _ | refine k3 ?_ | refine k1 ?_ _)); refine blk_put (cs := #[.int .i64 t299, .slice Ao32 t300.length co32, .bool false, .int .i64 0, .int .i64 0, .int .i64 0, .bool false]) ?_ 2 _ rfl; (with_reducible repeat (first | refine k2 ?_ _ | refine k3 ?_ | refine k1 ?_ _)); refine blk_put (cs := #[.int .i64 t299, .slice none 0 0, .bool false, .int .i64 0, .int .i64 0, .int .i64 0, .bool false]) ?_ 1 _ rfl; (with_reducible repeat (first | refine k2 ?_ _ | refine k3 ?_ | refine k1 ?_ _)); refine blk_put (cs := #[.int .i64 0, .slice none 0 0, .bool false, .int .i64 0, .int .i64 0, .int .i64 0, .bool false]) ?_ 0 _ rfl; (with_reducible repeat (first | refine k2 ?_ _ | refine k3 ?_ | refine k1 ?_ _)); exact BK309.out) hb); have n4_ := Aside0.mk (below_step (by repeat (first | (with_reducible first | exact HB.out | apply b1 | apply b2 | apply b3 | refine below_set ?_ GE296.out | refine below_set ?_ GE297.out | refine below_set ?_ GE309.out) | exact HB.out)) hb); clear HO302; clear BK296; clear BK297; clear BK309; clear HB; have HO302 := n0_; have BK296 := n1_; have BK297 := n2_; have BK309 := n3_; have HB := n4_; clear n0_ n1_ n2_ n3_ n4_; (try clear hb); (try clear hb2); (try clear hk); (try clear hi)) | (go_at_call 12; (with_reducible refine (wherrylaw21_wakes.calls kj2  t311 _ A24.out).mono ?_); rintro e w35 ⟨rfl, hb⟩; have n0_ := Aside0.mk (bR HO302.out hb); have n1_ := Aside0.mk (bK BK296.out hb); have n2_ := Aside0.mk (bK BK297.out hb); have n3_ := Aside0.mk (bK BK309.out hb); have n4_ := Aside0.mk (below_step (by repeat (first | (with_reducible first | exact HB.out | apply b1 | apply b2 | apply b3 | refine below_set ?_ GE296.out | refine below_set ?_ GE297.out | refine below_set ?_ GE309.out) | exact HB.out)) hb); clear HO302; clear BK296; clear BK297; clear BK309; clear HB; have HO302 := n0_; have BK296 := n1_; have BK297 := n2_; have BK309 := n3_; have HB := n4_; clear n0_ n1_ n2_ n3_ n4_; (try clear hb); (try clear hb2); (try clear hk); (try clear hi)))
       go_ret
       exact ⟨by first | rfl | (simp [errW_none, errW_some] <;> rfl) | (simp [*, errW_none, errW_some] <;> rfl), by repeat (first | (with_reducible first | exact HB.out | apply b1 | apply b2 | apply b3 | refine below_set ?_ GE296.out | refine below_set ?_ GE297.out | refine below_set ?_ GE309.out) | exact HB.out)⟩
      ·replace c23 := Bool.eq_false_iff.mpr c23
       subst c23
       have H1 : (some false) = some r := by rw [if_neg (show ¬ (false = true) by decide)] at H; exact H
       clear H
       have H := H1
       clear H1
       obtain rfl := Option.some.inj H
       have hnb36 := NB296_297.out
       have hnc36 := NB297_296.out
       obtain ⟨hcz37_0, hcz37_1, hcz37_2, hcz37_3, hcz37_4, hcz37_5, hcz37_6, hfz37_0, hfz37_1, hfz37_2, hfz37_3, hfz37_4, hfz37_5, hfz37_6⟩ := cells7 BK296.out
       go_wp2_with (first | ((with_reducible refine gate_callee (f := 16) rfl ?_); refine goesL_ (some 32) rfl rfl Try.func16 (by kernel_rfl) rfl #[.agg #[.int .i64 a0_0, .slice A0_1 l0_1.length c0_1, .bool a0_2, .int .i64 a0_3, .int .i64 a0_4, .int .i64 a0_5, .bool true], .agg #[.int .i64 5, .int .i64 a0_0, .int .i64 0, .int .i64 0, .slice none 0 0]] rfl (by (try simp only [List.map_toArray, List.map_cons, List.map_nil]); first | done | rfl | (simp only [List.length_drop, List.length_take]; rfl) | (go_simp; done) | (go_simp; rfl)) ?_; (refine (sender_Hear.calls kj2 a0_0 _ _ l0_1 a0_2 a0_3 a0_4 a0_5 true 5 a0_0 0 0 _ _ ([] : List Int) t299 t300 t303 t304 t305 t306 t307 t308 _ ?side1 ?side2 ?side3 ?side4 A19.out).mono ?_); (case side1 => first | with_reducible exact (Kd.C_below HR0_1.out HB.out) | exact sC ((Kd.C_below HR0_1.out HB.out))); (case side2 => exact HC0_1.out); (case side3 => exact Kd.C_nil _ _); (case side4 => exact Nat.le_refl _); rintro e w38 ⟨v301, rfl, ho0, hb⟩; refine ⟨_, rfl, ?_⟩; have n0_ := Aside0.mk (Kd.R_lower ho0 (below_size (by repeat (first | (with_reducible first | exact HB.out | apply b1 | apply b2 | apply b3 | refine below_set ?_ GE296.out | refine below_set ?_ GE297.out) | exact HB.out)))); have n1_ := Aside0.mk (bK BK296.out hb); have n2_ := Aside0.mk (bK BK297.out hb); have n3_ := Aside0.mk (below_step (by repeat (first | (with_reducible first | exact HB.out | apply b1 | apply b2 | apply b3 | refine below_set ?_ GE296.out | refine below_set ?_ GE297.out) | exact HB.out)) hb); clear BK296; clear BK297; clear HB; have HO302 := n0_; have BK296 := n1_; have BK297 := n2_; have HB := n3_; clear n0_ n1_ n2_ n3_; (try clear hb); (try clear hb2); (try clear hk); (try clear hi); (try clear ho0)) | ((with_reducible refine gate_dst (N := 5) rfl ?_); (try (refine gate_guard (by rfl) ?_; dsimp only)); refine box_event ?hg (N := 5) ?hd (cs := #[.int .i64 0, .slice none 0 0, .bool false, .int .i64 0, .int .i64 0, .int .i64 0, .bool false]) (t := 24) ?hr ?_; (case hd => rfl); (case hg => rfl); (case hr => first | (go_simp; done) | (go_simp; rfl)); intro gb309 hg w39 hbox hb; have n0_ := Aside0.mk (bR HO302.out hb); have n1_ := Aside0.mk (bK BK296.out hb); have n2_ := Aside0.mk (bK BK297.out hb); have n3_ := Aside0.mk (below_step (by repeat (first | (with_reducible first | exact HB.out | apply b1 | apply b2 | apply b3 | refine below_set ?_ GE296.out | refine below_set ?_ GE297.out) | exact HB.out)) hb); have n4_ := Aside0.mk (hbox); have n5_ := Aside0.mk ((by rw [hg]; exact (below_size (by repeat (first | (with_reducible first | exact HB.out | apply b1 | apply b2 | apply b3 | refine below_set ?_ GE296.out | refine below_set ?_ GE297.out) | exact HB.out))) : w.heap.size ≤ gb309)); have n6_ := Aside0.mk ((by rw [hg]; exact (below_size (by repeat (first | (with_reducible first | exact HB.out | apply b1 | apply b2 | apply b3 | refine below_set ?_ GE296.out | refine below_set ?_ GE297.out) | exact HB.out))) : w.heap.size ≤ gb309)); have n7_ := Aside0.mk ((by rw [hg]; exact Nat.ne_of_lt (blk_lt (g := gb296) (o := .cells #[.int .i64 a0_0, .slice A0_1 l0_1.length c0_1, .bool a0_2, .int .i64 a0_3, .int .i64 a0_4, .int .i64 a0_5, .bool true] 24 (0, 0)) (by first | with_reducible exact BK296.out | exact sK BK296.out)) : gb296 ≠ gb309)); have n8_ := Aside0.mk ((by rw [hg]; exact Nat.ne_of_gt (blk_lt (g := gb296) (o := .cells #[.int .i64 a0_0, .slice A0_1 l0_1.length c0_1, .bool a0_2, .int .i64 a0_3, .int .i64 a0_4, .int .i64 a0_5, .bool true] 24 (0, 0)) (by first | with_reducible exact BK296.out | exact sK BK296.out)) : gb309 ≠ gb296)); have n9_ := Aside0.mk ((by rw [hg]; exact Nat.ne_of_lt (blk_lt (g := gb297) (o := .cells #[.int .i64 a1_0, .int .i64 a1_1, .int .i64 a1_2, .int .i64 a1_3, .slice A1_4 l1_4.length c1_4] 32 (0, 0)) (by first | with_reducible exact BK297.out | exact sK BK297.out)) : gb297 ≠ gb309)); have n10_ := Aside0.mk ((by rw [hg]; exact Nat.ne_of_gt (blk_lt (g := gb297) (o := .cells #[.int .i64 a1_0, .int .i64 a1_1, .int .i64 a1_2, .int .i64 a1_3, .slice A1_4 l1_4.length c1_4] 32 (0, 0)) (by first | with_reducible exact BK297.out | exact sK BK297.out)) : gb309 ≠ gb297)); clear HO302; clear BK296; clear BK297; clear HB; have HO302 := n0_; have BK296 := n1_; have BK297 := n2_; have HB := n3_; have BK309 := n4_; have GW309 := n5_; have GE309 := n6_; have NB296_309 := n7_; have NB309_296 := n8_; have NB297_309 := n9_; have NB309_297 := n10_; clear n0_ n1_ n2_ n3_ n4_ n5_ n6_ n7_ n8_ n9_ n10_; clear hb hbox hg; have hnb40 := NB309_296.out; have hnc40 := NB296_309.out; have hnb41 := NB309_297.out; have hnc41 := NB297_309.out; obtain ⟨hcz42_0, hcz42_1, hcz42_2, hcz42_3, hcz42_4, hcz42_5, hcz42_6, hfz42_0, hfz42_1, hfz42_2, hfz42_3, hfz42_4, hfz42_5, hfz42_6⟩ := cells7 BK309.out; obtain ⟨Ao43, co43, eo43⟩ := Kd.R_slice HO302.out; subst eo43; obtain ⟨hcz44_0, hcz44_1, hcz44_2, hcz44_3, hcz44_4, hcz44_5, hcz44_6, hfz44_0, hfz44_1, hfz44_2, hfz44_3, hfz44_4, hfz44_5, hfz44_6⟩ := cells7 BK296.out) | (go_at_call 21; (refine (wherrykeep_Send.calls kj2 t299 _ _ t300 t303 t304 t305 t306 t307 0 _ _ ([] : List Int) false 0 0 0 false false _ ?side1 ?side2 ?side3 ?side4 A22.out).mono ?_); (case side1 => refine (Kd.R_reads' (e := 5) (base := w.heap.size) (ok := fun k_ => True) (n := t300.length) (c := co43) ?_).2.2; exact (by (with_reducible repeat (first | apply R1 | apply R2 | apply R3)); exact (Kd.R_mono (Kd.R_far (p := ⟨gb309, 6, none⟩) (Kd.R_far (p := ⟨gb309, 5, none⟩) (Kd.R_far (p := ⟨gb309, 4, none⟩) (Kd.R_far (p := ⟨gb309, 3, none⟩) (Kd.R_far (p := ⟨gb309, 2, none⟩) (Kd.R_far (p := ⟨gb309, 1, none⟩) (Kd.R_far (p := ⟨gb309, 0, none⟩) (Kd.R_types HO302.out BK309.out (by decide)) (fun _ hk => hk.2) (.int .i64 t299)) (fun _ hk => hk.2) (.slice Ao43 t300.length co43)) (fun _ hk => hk.2) (.bool t303)) (fun _ hk => hk.2) (.int .i64 t304)) (fun _ hk => hk.2) (.int .i64 t305)) (fun _ hk => hk.2) (.int .i64 t306)) (fun _ hk => hk.2) (.bool t307)) (fun _ h_ => h_.1)))); (case side2 => exact (Kd.R_reads' HO302.out).2.1); (case side3 => exact Kd.C_nil _ _); (case side4 => exact Nat.le_refl _); rintro e w45 ⟨rfl, hb⟩; have n0_ := Aside0.mk (Kd.R_below (by (with_reducible repeat (first | apply R1 | apply R2 | apply R3)); exact (Kd.R_mono (Kd.R_far (p := ⟨gb309, 6, none⟩) (Kd.R_far (p := ⟨gb309, 5, none⟩) (Kd.R_far (p := ⟨gb309, 4, none⟩) (Kd.R_far (p := ⟨gb309, 3, none⟩) (Kd.R_far (p := ⟨gb309, 2, none⟩) (Kd.R_far (p := ⟨gb309, 1, none⟩) (Kd.R_far (p := ⟨gb309, 0, none⟩) (Kd.R_types HO302.out BK309.out (by decide)) (fun _ hk => hk.2) (.int .i64 t299)) (fun _ hk => hk.2) (.slice Ao43 t300.length co43)) (fun _ hk => hk.2) (.bool t303)) (fun _ hk => hk.2) (.int .i64 t304)) (fun _ hk => hk.2) (.int .i64 t305)) (fun _ hk => hk.2) (.int .i64 t306)) (fun _ hk => hk.2) (.bool t307)) (fun _ h_ => h_.1))) hb); have n1_ := Aside0.mk (blk_below (g := gb296) (o := .cells #[.int .i64 a0_0, .slice A0_1 l0_1.length c0_1, .bool a0_2, .int .i64 a0_3, .int .i64 a0_4, .int .i64 a0_5, .bool true] 24 (0, 0)) (by (with_reducible repeat (first | refine k2 ?_ _ | refine k3 ?_ | refine k1 ?_ _)); refine blk_far ?_ NB296_309.out _; (with_reducible repeat (first | refine k2 ?_ _ | refine k3 ?_ | refine k1 ?_ _)); refine blk_far ?_ NB296_309.out _; (with_reducible repeat (first | refine k2 ?_ _ | refine k3 ?_ | refine k1 ?_ _)); refine blk_far ?_ NB296_309.out _; (with_reducible repeat (first | refine k2 ?_ _ | refine k3 ?_ | refine k1 ?_ _)); refine blk_far ?_ NB296_309.out _; (with_reducible repeat (first | refine k2 ?_ _ | refine k3 ?_ | refine k1 ?_ _)); refine blk_far ?_ NB296_309.out _; (with_reducible repeat (first | refine k2 ?_ _ | refine k3 ?_ | refine k1 ?_ _)); refine blk_far ?_ NB296_309.out _; (with_reducible repeat (first | refine k2 ?_ _ | refine k3 ?_ | refine k1 ?_ _)); refine blk_far ?_ NB296_309.out _; (with_reducible repeat (first | refine k2 ?_ _ | refine k3 ?_ | refine k1 ?_ _)); exact BK296.out) hb); have n2_ := Aside0.mk (blk_below (g := gb297) (o := .cells #[.int .i64 a1_0, .int .i64 a1_1, .int .i64 a1_2, .int .i64 a1_3, .slice A1_4 l1_4.length c1_4] 32 (0, 0)) (by (with_reducible repeat (first | refine k2 ?_ _ | refine k3 ?_ | refine k1 ?_ _)); refine blk_far ?_ NB297_309.out _; (with_reducible repeat (first | refine k2 ?_ _ | refine k3 ?_ | refine k1 ?_ _)); refine blk_far ?_ NB297_309.out _; (with_reducible repeat (first | refine k2 ?_ _ | refine k3 ?_ | refine k1 ?_ _)); refine blk_far ?_ NB297_309.out _; (with_reducible repeat (first | refine k2 ?_ _ | refine k3 ?_ | refine k1 ?_ _)); refine blk_far ?_ NB297_309.out _; (with_reducible repeat (first | refine k2 ?_ _ | refine k3 ?_ | refine k1 ?_ _)); refine blk_far ?_ NB297_309.out _; (with_reducible repeat (first | refine k2 ?_ _ | refine k3 ?_ | refine k1 ?_ _)); refine blk_far ?_ NB297_309.out _; (with_reducible repeat (first | refine k2 ?_ _ | refine k3 ?_ | refine k1 ?_ _)); refine blk_far ?_ NB297_309.out _; (with_reducible repeat (first | refine k2 ?_ _ | refine k3 ?_ | refine k1 ?_ _)); exact BK297.out) hb); have n3_ := Aside0.mk (blk_below (g := gb309) (o := .cells #[.int .i64 t299, .slice Ao43 t300.length co43, .bool t303, .int .i64 t304, .int .i64 t305, .int .i64 t306, .bool t307] 24 (0, 0)) (by (with_reducible repeat (first | refine k2 ?_ _ | refine k3 ?_ | refine k1 ?_ _)); refine blk_put (cs := #[.int .i64 t299, .slice Ao43 t300.length co43, .bool t303, .int .i64 t304, .int .i64 t305, .int .i64 t306, .bool false]) ?_ 6 _ rfl; (with_reducible repeat (first | refine k2 ?_ _ | refine k3 ?_ | refine k1 ?_ _)); refine blk_put (cs := #[.int .i64 t299, .slice Ao43 t300.length co43, .bool t303, .int .i64 t304, .int .i64 t305, .int .i64 0, .bool false]) ?_ 5 _ rfl; (with_reducible repeat (first | refine k2 ?_ _ | refine k3 ?_ | refine k1 ?_ _)); refine blk_put (cs := #[.int .i64 t299, .slice Ao43 t300.length co43, .bool t303, .int .i64 t304, .int .i64 0, .int .i64 0, .bool false]) ?_ 4 _ rfl; (with_reducible repeat (first | refine k2 ?_ _ | refine k3 ?_ | refine k1 ?_ _)); refine blk_put (cs := #[.int .i64 t299, .slice Ao43 t300.length co43, .bool t303, .int .i64 0, .int .i64 0, .int .i64 0, .bool false]) ?_ 3 _ rfl; (with_reducible repeat (first | refine k2 ?_ _ | refine k3 ?_ | refine k1 ?_ _)); refine blk_put (cs := #[.int .i64 t299, .slice Ao43 t300.length co43, .bool false, .int .i64 0, .int .i64 0, .int .i64 0, .bool false]) ?_ 2 _ rfl; (with_reducible repeat (first | refine k2 ?_ _ | refine k3 ?_ | refine k1 ?_ _)); refine blk_put (cs := #[.int .i64 t299, .slice none 0 0, .bool false, .int .i64 0, .int .i64 0, .int .i64 0, .bool false]) ?_ 1 _ rfl; (with_reducible repeat (first | refine k2 ?_ _ | refine k3 ?_ | refine k1 ?_ _)); refine blk_put (cs := #[.int .i64 0, .slice none 0 0, .bool false, .int .i64 0, .int .i64 0, .int .i64 0, .bool false]) ?_ 0 _ rfl; (with_reducible repeat (first | refine k2 ?_ _ | refine k3 ?_ | refine k1 ?_ _)); exact BK309.out) hb); have n4_ := Aside0.mk (below_step (by repeat (first | (with_reducible first | exact HB.out | apply b1 | apply b2 | apply b3 | refine below_set ?_ GE296.out | refine below_set ?_ GE297.out | refine below_set ?_ GE309.out) | exact HB.out)) hb); clear HO302; clear BK296; clear BK297; clear BK309; clear HB; have HO302 := n0_; have BK296 := n1_; have BK297 := n2_; have BK309 := n3_; have HB := n4_; clear n0_ n1_ n2_ n3_ n4_; (try clear hb); (try clear hb2); (try clear hk); (try clear hi)))
       go_ret
       exact ⟨by first | rfl | (simp [errW_none, errW_some] <;> rfl) | (simp [*, errW_none, errW_some] <;> rfl), by repeat (first | (with_reducible first | exact HB.out | apply b1 | apply b2 | apply b3 | refine below_set ?_ GE296.out | refine below_set ?_ GE297.out | refine below_set ?_ GE309.out) | exact HB.out)⟩
     ·rw [if_neg c21] at H
      have c21b0 : (t308 == 11) = false := beq_eq_false_iff_ne.mpr c21
      have c21b1 : (t308 != 11) = true := bne_iff_ne.mpr c21
      obtain rfl := Option.some.inj H
      have hnb46 := NB296_297.out
      have hnc46 := NB297_296.out
      obtain ⟨hcz47_0, hcz47_1, hcz47_2, hcz47_3, hcz47_4, hcz47_5, hcz47_6, hfz47_0, hfz47_1, hfz47_2, hfz47_3, hfz47_4, hfz47_5, hfz47_6⟩ := cells7 BK296.out
      go_wp2_with (first | ((with_reducible refine gate_callee (f := 16) rfl ?_); refine goesL_ (some 32) rfl rfl Try.func16 (by kernel_rfl) rfl #[.agg #[.int .i64 a0_0, .slice A0_1 l0_1.length c0_1, .bool a0_2, .int .i64 a0_3, .int .i64 a0_4, .int .i64 a0_5, .bool true], .agg #[.int .i64 5, .int .i64 a0_0, .int .i64 0, .int .i64 0, .slice none 0 0]] rfl (by (try simp only [List.map_toArray, List.map_cons, List.map_nil]); first | done | rfl | (simp only [List.length_drop, List.length_take]; rfl) | (go_simp; done) | (go_simp; rfl)) ?_; (refine (sender_Hear.calls kj2 a0_0 _ _ l0_1 a0_2 a0_3 a0_4 a0_5 true 5 a0_0 0 0 _ _ ([] : List Int) t299 t300 t303 t304 t305 t306 t307 t308 _ ?side1 ?side2 ?side3 ?side4 A19.out).mono ?_); (case side1 => first | with_reducible exact (Kd.C_below HR0_1.out HB.out) | exact sC ((Kd.C_below HR0_1.out HB.out))); (case side2 => exact HC0_1.out); (case side3 => exact Kd.C_nil _ _); (case side4 => exact Nat.le_refl _); rintro e w48 ⟨v301, rfl, ho0, hb⟩; refine ⟨_, rfl, ?_⟩; have n0_ := Aside0.mk (Kd.R_lower ho0 (below_size (by repeat (first | (with_reducible first | exact HB.out | apply b1 | apply b2 | apply b3 | refine below_set ?_ GE296.out | refine below_set ?_ GE297.out) | exact HB.out)))); have n1_ := Aside0.mk (bK BK296.out hb); have n2_ := Aside0.mk (bK BK297.out hb); have n3_ := Aside0.mk (below_step (by repeat (first | (with_reducible first | exact HB.out | apply b1 | apply b2 | apply b3 | refine below_set ?_ GE296.out | refine below_set ?_ GE297.out) | exact HB.out)) hb); clear BK296; clear BK297; clear HB; have HO302 := n0_; have BK296 := n1_; have BK297 := n2_; have HB := n3_; clear n0_ n1_ n2_ n3_; (try clear hb); (try clear hb2); (try clear hk); (try clear hi); (try clear ho0)) | ((with_reducible refine gate_dst (N := 5) rfl ?_); (try (refine gate_guard (by rfl) ?_; dsimp only)); refine box_event ?hg (N := 5) ?hd (cs := #[.int .i64 0, .slice none 0 0, .bool false, .int .i64 0, .int .i64 0, .int .i64 0, .bool false]) (t := 24) ?hr ?_; (case hd => rfl); (case hg => rfl); (case hr => first | (go_simp; done) | (go_simp; rfl)); intro gb309 hg w49 hbox hb; have n0_ := Aside0.mk (bR HO302.out hb); have n1_ := Aside0.mk (bK BK296.out hb); have n2_ := Aside0.mk (bK BK297.out hb); have n3_ := Aside0.mk (below_step (by repeat (first | (with_reducible first | exact HB.out | apply b1 | apply b2 | apply b3 | refine below_set ?_ GE296.out | refine below_set ?_ GE297.out) | exact HB.out)) hb); have n4_ := Aside0.mk (hbox); have n5_ := Aside0.mk ((by rw [hg]; exact (below_size (by repeat (first | (with_reducible first | exact HB.out | apply b1 | apply b2 | apply b3 | refine below_set ?_ GE296.out | refine below_set ?_ GE297.out) | exact HB.out))) : w.heap.size ≤ gb309)); have n6_ := Aside0.mk ((by rw [hg]; exact (below_size (by repeat (first | (with_reducible first | exact HB.out | apply b1 | apply b2 | apply b3 | refine below_set ?_ GE296.out | refine below_set ?_ GE297.out) | exact HB.out))) : w.heap.size ≤ gb309)); have n7_ := Aside0.mk ((by rw [hg]; exact Nat.ne_of_lt (blk_lt (g := gb296) (o := .cells #[.int .i64 a0_0, .slice A0_1 l0_1.length c0_1, .bool a0_2, .int .i64 a0_3, .int .i64 a0_4, .int .i64 a0_5, .bool true] 24 (0, 0)) (by first | with_reducible exact BK296.out | exact sK BK296.out)) : gb296 ≠ gb309)); have n8_ := Aside0.mk ((by rw [hg]; exact Nat.ne_of_gt (blk_lt (g := gb296) (o := .cells #[.int .i64 a0_0, .slice A0_1 l0_1.length c0_1, .bool a0_2, .int .i64 a0_3, .int .i64 a0_4, .int .i64 a0_5, .bool true] 24 (0, 0)) (by first | with_reducible exact BK296.out | exact sK BK296.out)) : gb309 ≠ gb296)); have n9_ := Aside0.mk ((by rw [hg]; exact Nat.ne_of_lt (blk_lt (g := gb297) (o := .cells #[.int .i64 a1_0, .int .i64 a1_1, .int .i64 a1_2, .int .i64 a1_3, .slice A1_4 l1_4.length c1_4] 32 (0, 0)) (by first | with_reducible exact BK297.out | exact sK BK297.out)) : gb297 ≠ gb309)); have n10_ := Aside0.mk ((by rw [hg]; exact Nat.ne_of_gt (blk_lt (g := gb297) (o := .cells #[.int .i64 a1_0, .int .i64 a1_1, .int .i64 a1_2, .int .i64 a1_3, .slice A1_4 l1_4.length c1_4] 32 (0, 0)) (by first | with_reducible exact BK297.out | exact sK BK297.out)) : gb309 ≠ gb297)); clear HO302; clear BK296; clear BK297; clear HB; have HO302 := n0_; have BK296 := n1_; have BK297 := n2_; have HB := n3_; have BK309 := n4_; have GW309 := n5_; have GE309 := n6_; have NB296_309 := n7_; have NB309_296 := n8_; have NB297_309 := n9_; have NB309_297 := n10_; clear n0_ n1_ n2_ n3_ n4_ n5_ n6_ n7_ n8_ n9_ n10_; clear hb hbox hg; have hnb50 := NB309_296.out; have hnc50 := NB296_309.out; have hnb51 := NB309_297.out; have hnc51 := NB297_309.out; obtain ⟨hcz52_0, hcz52_1, hcz52_2, hcz52_3, hcz52_4, hcz52_5, hcz52_6, hfz52_0, hfz52_1, hfz52_2, hfz52_3, hfz52_4, hfz52_5, hfz52_6⟩ := cells7 BK309.out; obtain ⟨Ao53, co53, eo53⟩ := Kd.R_slice HO302.out; subst eo53; obtain ⟨hcz54_0, hcz54_1, hcz54_2, hcz54_3, hcz54_4, hcz54_5, hcz54_6, hfz54_0, hfz54_1, hfz54_2, hfz54_3, hfz54_4, hfz54_5, hfz54_6⟩ := cells7 BK296.out))
      go_ret
      exact ⟨by first | rfl | (simp [errW_none, errW_some] <;> rfl) | (simp [*, errW_none, errW_some] <;> rfl), by repeat (first | (with_reducible first | exact HB.out | apply b1 | apply b2 | apply b3 | refine below_set ?_ GE296.out | refine below_set ?_ GE297.out | refine below_set ?_ GE309.out) | exact HB.out)⟩
    ·replace c20 := Bool.eq_false_iff.mpr c20
     subst c20
     have H1 : (if t308 = 0 then (wherrylaw21_SenderOver.j1 kj2 (!t307) a1_0 a1_1 a1_2 a1_3 l1_4 t299 t300 t303 t304 t305 t306 t307) else (wherrylaw21_SenderOver.j1 kj2 true a1_0 a1_1 a1_2 a1_3 l1_4 t299 t300 t303 t304 t305 t306 t307)) = some r := by rw [if_neg (show ¬ (false = true) by decide)] at H; exact H
     clear H
     have H := H1
     clear H1
     have HC55 := Aside0.mk H
     clear H
     have hnb56 := NB296_297.out
     have hnc56 := NB297_296.out
     obtain ⟨hcz57_0, hcz57_1, hcz57_2, hcz57_3, hcz57_4, hcz57_5, hcz57_6, hfz57_0, hfz57_1, hfz57_2, hfz57_3, hfz57_4, hfz57_5, hfz57_6⟩ := cells7 BK296.out
     go_upto_region 6 with (first | ((with_reducible refine gate_callee (f := 16) rfl ?_); refine goesL_ (some 32) rfl rfl Try.func16 (by kernel_rfl) rfl #[.agg #[.int .i64 a0_0, .slice A0_1 l0_1.length c0_1, .bool a0_2, .int .i64 a0_3, .int .i64 a0_4, .int .i64 a0_5, .bool false], .agg #[.int .i64 5, .int .i64 a0_0, .int .i64 0, .int .i64 0, .slice none 0 0]] rfl (by (try simp only [List.map_toArray, List.map_cons, List.map_nil]); first | done | rfl | (simp only [List.length_drop, List.length_take]; rfl) | (go_simp; done) | (go_simp; rfl)) ?_; (refine (sender_Hear.calls kj2 a0_0 _ _ l0_1 a0_2 a0_3 a0_4 a0_5 false 5 a0_0 0 0 _ _ ([] : List Int) t299 t300 t303 t304 t305 t306 t307 t308 _ ?side1 ?side2 ?side3 ?side4 A19.out).mono ?_); (case side1 => first | with_reducible exact (Kd.C_below HR0_1.out HB.out) | exact sC ((Kd.C_below HR0_1.out HB.out))); (case side2 => exact HC0_1.out); (case side3 => exact Kd.C_nil _ _); (case side4 => exact Nat.le_refl _); rintro e w58 ⟨v301, rfl, ho0, hb⟩; refine ⟨_, rfl, ?_⟩; have n0_ := Aside0.mk (Kd.R_lower ho0 (below_size (by repeat (first | (with_reducible first | exact HB.out | apply b1 | apply b2 | apply b3 | refine below_set ?_ GE296.out | refine below_set ?_ GE297.out) | exact HB.out)))); have n1_ := Aside0.mk (bK BK296.out hb); have n2_ := Aside0.mk (bK BK297.out hb); have n3_ := Aside0.mk (below_step (by repeat (first | (with_reducible first | exact HB.out | apply b1 | apply b2 | apply b3 | refine below_set ?_ GE296.out | refine below_set ?_ GE297.out) | exact HB.out)) hb); clear BK296; clear BK297; clear HB; have HO302 := n0_; have BK296 := n1_; have BK297 := n2_; have HB := n3_; clear n0_ n1_ n2_ n3_; (try clear hb); (try clear hb2); (try clear hk); (try clear hi); (try clear ho0)) | ((with_reducible refine gate_dst (N := 5) rfl ?_); (try (refine gate_guard (by rfl) ?_; dsimp only)); refine box_event ?hg (N := 5) ?hd (cs := #[.int .i64 0, .slice none 0 0, .bool false, .int .i64 0, .int .i64 0, .int .i64 0, .bool false]) (t := 24) ?hr ?_; (case hd => rfl); (case hg => rfl); (case hr => first | (go_simp; done) | (go_simp; rfl)); intro gb309 hg w59 hbox hb; have n0_ := Aside0.mk (bR HO302.out hb); have n1_ := Aside0.mk (bK BK296.out hb); have n2_ := Aside0.mk (bK BK297.out hb); have n3_ := Aside0.mk (below_step (by repeat (first | (with_reducible first | exact HB.out | apply b1 | apply b2 | apply b3 | refine below_set ?_ GE296.out | refine below_set ?_ GE297.out) | exact HB.out)) hb); have n4_ := Aside0.mk (hbox); have n5_ := Aside0.mk ((by rw [hg]; exact (below_size (by repeat (first | (with_reducible first | exact HB.out | apply b1 | apply b2 | apply b3 | refine below_set ?_ GE296.out | refine below_set ?_ GE297.out) | exact HB.out))) : w.heap.size ≤ gb309)); have n6_ := Aside0.mk ((by rw [hg]; exact (below_size (by repeat (first | (with_reducible first | exact HB.out | apply b1 | apply b2 | apply b3 | refine below_set ?_ GE296.out | refine below_set ?_ GE297.out) | exact HB.out))) : w.heap.size ≤ gb309)); have n7_ := Aside0.mk ((by rw [hg]; exact Nat.ne_of_lt (blk_lt (g := gb296) (o := .cells #[.int .i64 a0_0, .slice A0_1 l0_1.length c0_1, .bool a0_2, .int .i64 a0_3, .int .i64 a0_4, .int .i64 a0_5, .bool false] 24 (0, 0)) (by first | with_reducible exact BK296.out | exact sK BK296.out)) : gb296 ≠ gb309)); have n8_ := Aside0.mk ((by rw [hg]; exact Nat.ne_of_gt (blk_lt (g := gb296) (o := .cells #[.int .i64 a0_0, .slice A0_1 l0_1.length c0_1, .bool a0_2, .int .i64 a0_3, .int .i64 a0_4, .int .i64 a0_5, .bool false] 24 (0, 0)) (by first | with_reducible exact BK296.out | exact sK BK296.out)) : gb309 ≠ gb296)); have n9_ := Aside0.mk ((by rw [hg]; exact Nat.ne_of_lt (blk_lt (g := gb297) (o := .cells #[.int .i64 a1_0, .int .i64 a1_1, .int .i64 a1_2, .int .i64 a1_3, .slice A1_4 l1_4.length c1_4] 32 (0, 0)) (by first | with_reducible exact BK297.out | exact sK BK297.out)) : gb297 ≠ gb309)); have n10_ := Aside0.mk ((by rw [hg]; exact Nat.ne_of_gt (blk_lt (g := gb297) (o := .cells #[.int .i64 a1_0, .int .i64 a1_1, .int .i64 a1_2, .int .i64 a1_3, .slice A1_4 l1_4.length c1_4] 32 (0, 0)) (by first | with_reducible exact BK297.out | exact sK BK297.out)) : gb309 ≠ gb297)); clear HO302; clear BK296; clear BK297; clear HB; have HO302 := n0_; have BK296 := n1_; have BK297 := n2_; have HB := n3_; have BK309 := n4_; have GW309 := n5_; have GE309 := n6_; have NB296_309 := n7_; have NB309_296 := n8_; have NB297_309 := n9_; have NB309_297 := n10_; clear n0_ n1_ n2_ n3_ n4_ n5_ n6_ n7_ n8_ n9_ n10_; clear hb hbox hg; have hnb60 := NB309_296.out; have hnc60 := NB296_309.out; have hnb61 := NB309_297.out; have hnc61 := NB297_309.out; obtain ⟨hcz62_0, hcz62_1, hcz62_2, hcz62_3, hcz62_4, hcz62_5, hcz62_6, hfz62_0, hfz62_1, hfz62_2, hfz62_3, hfz62_4, hfz62_5, hfz62_6⟩ := cells7 BK309.out; obtain ⟨Ao63, co63, eo63⟩ := Kd.R_slice HO302.out; subst eo63; obtain ⟨hcz64_0, hcz64_1, hcz64_2, hcz64_3, hcz64_4, hcz64_5, hcz64_6, hfz64_0, hfz64_1, hfz64_2, hfz64_3, hfz64_4, hfz64_5, hfz64_6⟩ := cells7 BK296.out))
     (try simp only [Act.put, List.setIfInBounds_toArray, List.set_cons_zero, List.set_cons_succ])
     go_cut [53] (fun v53 wc => ∃ (kq : Nat) (x53_54 : Bool), v53 = .bool x53_54 ∧ Aside0 (wherrylaw21_SenderOver.j1 kq x53_54 a1_0 a1_1 a1_2 a1_3 l1_4 t299 t300 t303 t304 t305 t306 t307 = some r) ∧ Aside0 (kq ≤ kj2) ∧ Aside0 (Kd.R (Kd.int .u8) 5 wc w.heap.size (fun _ => True) (.slice Ao63 t300.length co63) t300) ∧ Aside0 (wc.heap[gb296]? = some (.cells #[.int .i64 a0_0, (.slice A0_1 l0_1.length c0_1), .bool a0_2, .int .i64 a0_3, .int .i64 a0_4, .int .i64 a0_5, .bool false] 24 (0, 0))) ∧ Aside0 (wc.heap[gb297]? = some (.cells #[.int .i64 a1_0, .int .i64 a1_1, .int .i64 a1_2, .int .i64 a1_3, (.slice A1_4 l1_4.length c1_4)] 32 (0, 0))) ∧ Aside0 (wc.heap[gb309]? = some (.cells #[.int .i64 t299, (.slice Ao63 t300.length co63), .bool t303, .int .i64 t304, .int .i64 t305, .int .i64 t306, .bool t307] 24 (0, 0))) ∧ Aside0 (Below w.heap.size w wc))
     case first =>
      have H := HC55.out
      clear HC55
      by_cases c65 : t308 = 0
      ·rw [if_pos c65] at H
       have c65b0 : (t308 == 0) = true := beq_iff_eq.mpr c65
       have c65b1 : (t308 != 0) = false := bne_eq_false_iff_eq.mpr c65
       clear c65
       (first | rw [c65b0] | (simp only [i64_w, i32_w]; rw [c65b0]) | skip)
       have H' := Aside0.mk H
       clear H
       have hnb66 := NB309_296.out
       have hnc66 := NB296_309.out
       have hnb67 := NB309_297.out
       have hnc67 := NB297_309.out
       obtain ⟨hcz68_0, hcz68_1, hcz68_2, hcz68_3, hcz68_4, hcz68_5, hcz68_6, hfz68_0, hfz68_1, hfz68_2, hfz68_3, hfz68_4, hfz68_5, hfz68_6⟩ := cells7 BK309.out
       go_wp2
       go_meet
       case rel => exact ⟨_, (!t307), (by first | rfl | (simp; done) | (simp [*]; done)), H', ⟨by have := HJ2.out; first | omega | exact Nat.le_refl _⟩, ⟨by (with_reducible repeat (first | apply R1 | apply R2 | apply R3)); exact Kd.R_mono (Kd.R_far (p := ⟨gb309, 6, none⟩) (Kd.R_far (p := ⟨gb309, 5, none⟩) (Kd.R_far (p := ⟨gb309, 4, none⟩) (Kd.R_far (p := ⟨gb309, 3, none⟩) (Kd.R_far (p := ⟨gb309, 2, none⟩) (Kd.R_far (p := ⟨gb309, 1, none⟩) (Kd.R_far (p := ⟨gb309, 0, none⟩) (Kd.R_types HO302.out BK309.out (by decide)) (fun _ hk => hk.2) (.int .i64 t299)) (fun _ hk => hk.2) (.slice Ao63 t300.length co63)) (fun _ hk => hk.2) (.bool t303)) (fun _ hk => hk.2) (.int .i64 t304)) (fun _ hk => hk.2) (.int .i64 t305)) (fun _ hk => hk.2) (.int .i64 t306)) (fun _ hk => hk.2) (.bool t307)) (fun _ hk => trivial)⟩, ⟨by (with_reducible repeat (first | refine k2 ?_ _ | refine k3 ?_ | refine k1 ?_ _)); refine blk_far ?_ NB296_309.out _; (with_reducible repeat (first | refine k2 ?_ _ | refine k3 ?_ | refine k1 ?_ _)); refine blk_far ?_ NB296_309.out _; (with_reducible repeat (first | refine k2 ?_ _ | refine k3 ?_ | refine k1 ?_ _)); refine blk_far ?_ NB296_309.out _; (with_reducible repeat (first | refine k2 ?_ _ | refine k3 ?_ | refine k1 ?_ _)); refine blk_far ?_ NB296_309.out _; (with_reducible repeat (first | refine k2 ?_ _ | refine k3 ?_ | refine k1 ?_ _)); refine blk_far ?_ NB296_309.out _; (with_reducible repeat (first | refine k2 ?_ _ | refine k3 ?_ | refine k1 ?_ _)); refine blk_far ?_ NB296_309.out _; (with_reducible repeat (first | refine k2 ?_ _ | refine k3 ?_ | refine k1 ?_ _)); refine blk_far ?_ NB296_309.out _; (with_reducible repeat (first | refine k2 ?_ _ | refine k3 ?_ | refine k1 ?_ _)); exact BK296.out⟩, ⟨by (with_reducible repeat (first | refine k2 ?_ _ | refine k3 ?_ | refine k1 ?_ _)); refine blk_far ?_ NB297_309.out _; (with_reducible repeat (first | refine k2 ?_ _ | refine k3 ?_ | refine k1 ?_ _)); refine blk_far ?_ NB297_309.out _; (with_reducible repeat (first | refine k2 ?_ _ | refine k3 ?_ | refine k1 ?_ _)); refine blk_far ?_ NB297_309.out _; (with_reducible repeat (first | refine k2 ?_ _ | refine k3 ?_ | refine k1 ?_ _)); refine blk_far ?_ NB297_309.out _; (with_reducible repeat (first | refine k2 ?_ _ | refine k3 ?_ | refine k1 ?_ _)); refine blk_far ?_ NB297_309.out _; (with_reducible repeat (first | refine k2 ?_ _ | refine k3 ?_ | refine k1 ?_ _)); refine blk_far ?_ NB297_309.out _; (with_reducible repeat (first | refine k2 ?_ _ | refine k3 ?_ | refine k1 ?_ _)); refine blk_far ?_ NB297_309.out _; (with_reducible repeat (first | refine k2 ?_ _ | refine k3 ?_ | refine k1 ?_ _)); exact BK297.out⟩, ⟨by (with_reducible repeat (first | refine k2 ?_ _ | refine k3 ?_ | refine k1 ?_ _)); refine blk_put (cs := #[.int .i64 t299, .slice Ao63 t300.length co63, .bool t303, .int .i64 t304, .int .i64 t305, .int .i64 t306, .bool false]) ?_ 6 _ rfl; (with_reducible repeat (first | refine k2 ?_ _ | refine k3 ?_ | refine k1 ?_ _)); refine blk_put (cs := #[.int .i64 t299, .slice Ao63 t300.length co63, .bool t303, .int .i64 t304, .int .i64 t305, .int .i64 0, .bool false]) ?_ 5 _ rfl; (with_reducible repeat (first | refine k2 ?_ _ | refine k3 ?_ | refine k1 ?_ _)); refine blk_put (cs := #[.int .i64 t299, .slice Ao63 t300.length co63, .bool t303, .int .i64 t304, .int .i64 0, .int .i64 0, .bool false]) ?_ 4 _ rfl; (with_reducible repeat (first | refine k2 ?_ _ | refine k3 ?_ | refine k1 ?_ _)); refine blk_put (cs := #[.int .i64 t299, .slice Ao63 t300.length co63, .bool t303, .int .i64 0, .int .i64 0, .int .i64 0, .bool false]) ?_ 3 _ rfl; (with_reducible repeat (first | refine k2 ?_ _ | refine k3 ?_ | refine k1 ?_ _)); refine blk_put (cs := #[.int .i64 t299, .slice Ao63 t300.length co63, .bool false, .int .i64 0, .int .i64 0, .int .i64 0, .bool false]) ?_ 2 _ rfl; (with_reducible repeat (first | refine k2 ?_ _ | refine k3 ?_ | refine k1 ?_ _)); refine blk_put (cs := #[.int .i64 t299, .slice none 0 0, .bool false, .int .i64 0, .int .i64 0, .int .i64 0, .bool false]) ?_ 1 _ rfl; (with_reducible repeat (first | refine k2 ?_ _ | refine k3 ?_ | refine k1 ?_ _)); refine blk_put (cs := #[.int .i64 0, .slice none 0 0, .bool false, .int .i64 0, .int .i64 0, .int .i64 0, .bool false]) ?_ 0 _ rfl; (with_reducible repeat (first | refine k2 ?_ _ | refine k3 ?_ | refine k1 ?_ _)); exact BK309.out⟩, ⟨by repeat (first | (with_reducible first | exact HB.out | apply b1 | apply b2 | apply b3 | refine below_set ?_ GE296.out | refine below_set ?_ GE297.out | refine below_set ?_ GE309.out) | exact HB.out)⟩⟩
      ·rw [if_neg c65] at H
       have c65b0 : (t308 == 0) = false := beq_eq_false_iff_ne.mpr c65
       have c65b1 : (t308 != 0) = true := bne_iff_ne.mpr c65
       (first | rw [c65b0] | (simp only [i64_w, i32_w]; rw [c65b0]) | skip)
       have H' := Aside0.mk H
       clear H
       go_wp2
       go_meet
       case rel => exact ⟨_, (true), (by first | rfl | (simp; done) | (simp [*]; done)), H', ⟨by have := HJ2.out; first | omega | exact Nat.le_refl _⟩, ⟨by (with_reducible repeat (first | apply R1 | apply R2 | apply R3)); exact Kd.R_mono (Kd.R_far (p := ⟨gb309, 6, none⟩) (Kd.R_far (p := ⟨gb309, 5, none⟩) (Kd.R_far (p := ⟨gb309, 4, none⟩) (Kd.R_far (p := ⟨gb309, 3, none⟩) (Kd.R_far (p := ⟨gb309, 2, none⟩) (Kd.R_far (p := ⟨gb309, 1, none⟩) (Kd.R_far (p := ⟨gb309, 0, none⟩) (Kd.R_types HO302.out BK309.out (by decide)) (fun _ hk => hk.2) (.int .i64 t299)) (fun _ hk => hk.2) (.slice Ao63 t300.length co63)) (fun _ hk => hk.2) (.bool t303)) (fun _ hk => hk.2) (.int .i64 t304)) (fun _ hk => hk.2) (.int .i64 t305)) (fun _ hk => hk.2) (.int .i64 t306)) (fun _ hk => hk.2) (.bool t307)) (fun _ hk => trivial)⟩, ⟨by (with_reducible repeat (first | refine k2 ?_ _ | refine k3 ?_ | refine k1 ?_ _)); refine blk_far ?_ NB296_309.out _; (with_reducible repeat (first | refine k2 ?_ _ | refine k3 ?_ | refine k1 ?_ _)); refine blk_far ?_ NB296_309.out _; (with_reducible repeat (first | refine k2 ?_ _ | refine k3 ?_ | refine k1 ?_ _)); refine blk_far ?_ NB296_309.out _; (with_reducible repeat (first | refine k2 ?_ _ | refine k3 ?_ | refine k1 ?_ _)); refine blk_far ?_ NB296_309.out _; (with_reducible repeat (first | refine k2 ?_ _ | refine k3 ?_ | refine k1 ?_ _)); refine blk_far ?_ NB296_309.out _; (with_reducible repeat (first | refine k2 ?_ _ | refine k3 ?_ | refine k1 ?_ _)); refine blk_far ?_ NB296_309.out _; (with_reducible repeat (first | refine k2 ?_ _ | refine k3 ?_ | refine k1 ?_ _)); refine blk_far ?_ NB296_309.out _; (with_reducible repeat (first | refine k2 ?_ _ | refine k3 ?_ | refine k1 ?_ _)); exact BK296.out⟩, ⟨by (with_reducible repeat (first | refine k2 ?_ _ | refine k3 ?_ | refine k1 ?_ _)); refine blk_far ?_ NB297_309.out _; (with_reducible repeat (first | refine k2 ?_ _ | refine k3 ?_ | refine k1 ?_ _)); refine blk_far ?_ NB297_309.out _; (with_reducible repeat (first | refine k2 ?_ _ | refine k3 ?_ | refine k1 ?_ _)); refine blk_far ?_ NB297_309.out _; (with_reducible repeat (first | refine k2 ?_ _ | refine k3 ?_ | refine k1 ?_ _)); refine blk_far ?_ NB297_309.out _; (with_reducible repeat (first | refine k2 ?_ _ | refine k3 ?_ | refine k1 ?_ _)); refine blk_far ?_ NB297_309.out _; (with_reducible repeat (first | refine k2 ?_ _ | refine k3 ?_ | refine k1 ?_ _)); refine blk_far ?_ NB297_309.out _; (with_reducible repeat (first | refine k2 ?_ _ | refine k3 ?_ | refine k1 ?_ _)); refine blk_far ?_ NB297_309.out _; (with_reducible repeat (first | refine k2 ?_ _ | refine k3 ?_ | refine k1 ?_ _)); exact BK297.out⟩, ⟨by (with_reducible repeat (first | refine k2 ?_ _ | refine k3 ?_ | refine k1 ?_ _)); refine blk_put (cs := #[.int .i64 t299, .slice Ao63 t300.length co63, .bool t303, .int .i64 t304, .int .i64 t305, .int .i64 t306, .bool false]) ?_ 6 _ rfl; (with_reducible repeat (first | refine k2 ?_ _ | refine k3 ?_ | refine k1 ?_ _)); refine blk_put (cs := #[.int .i64 t299, .slice Ao63 t300.length co63, .bool t303, .int .i64 t304, .int .i64 t305, .int .i64 0, .bool false]) ?_ 5 _ rfl; (with_reducible repeat (first | refine k2 ?_ _ | refine k3 ?_ | refine k1 ?_ _)); refine blk_put (cs := #[.int .i64 t299, .slice Ao63 t300.length co63, .bool t303, .int .i64 t304, .int .i64 0, .int .i64 0, .bool false]) ?_ 4 _ rfl; (with_reducible repeat (first | refine k2 ?_ _ | refine k3 ?_ | refine k1 ?_ _)); refine blk_put (cs := #[.int .i64 t299, .slice Ao63 t300.length co63, .bool t303, .int .i64 0, .int .i64 0, .int .i64 0, .bool false]) ?_ 3 _ rfl; (with_reducible repeat (first | refine k2 ?_ _ | refine k3 ?_ | refine k1 ?_ _)); refine blk_put (cs := #[.int .i64 t299, .slice Ao63 t300.length co63, .bool false, .int .i64 0, .int .i64 0, .int .i64 0, .bool false]) ?_ 2 _ rfl; (with_reducible repeat (first | refine k2 ?_ _ | refine k3 ?_ | refine k1 ?_ _)); refine blk_put (cs := #[.int .i64 t299, .slice none 0 0, .bool false, .int .i64 0, .int .i64 0, .int .i64 0, .bool false]) ?_ 1 _ rfl; (with_reducible repeat (first | refine k2 ?_ _ | refine k3 ?_ | refine k1 ?_ _)); refine blk_put (cs := #[.int .i64 0, .slice none 0 0, .bool false, .int .i64 0, .int .i64 0, .int .i64 0, .bool false]) ?_ 0 _ rfl; (with_reducible repeat (first | refine k2 ?_ _ | refine k3 ?_ | refine k1 ?_ _)); exact BK309.out⟩, ⟨by repeat (first | (with_reducible first | exact HB.out | apply b1 | apply b2 | apply b3 | refine below_set ?_ GE296.out | refine below_set ?_ GE297.out | refine below_set ?_ GE309.out) | exact HB.out)⟩⟩
     case rest =>
      clear HC55
      try clear c1
      try clear c2
      try clear p2
      try clear c3
      try clear c4
      try clear c5
      try clear c6
      try clear c6b0
      try clear c6b1
      try clear c7
      try clear c9
      try clear c9b0
      try clear c9b1
      try clear c10
      try clear c14
      try clear c16
      try clear c18
      try clear c20
      try clear c21
      try clear c21b0
      try clear c21b1
      try clear c23
      try clear c25
      try clear c29
      try clear c30
      try clear c36
      try clear c40
      try clear c41
      try clear c46
      try clear c50
      try clear c51
      try clear c56
      try clear c60
      try clear c61
      try clear c65
      try clear c65b0
      try clear c65b1
      try clear c66
      try clear c67
      try clear hcz11_0
      try clear hcz11_1
      try clear hcz11_2
      try clear hcz11_3
      try clear hcz11_4
      try clear hcz11_5
      try clear hcz11_6
      try clear hcz12_0
      try clear hcz12_1
      try clear hcz12_2
      try clear hcz12_3
      try clear hcz12_4
      try clear hcz15_0
      try clear hcz15_1
      try clear hcz15_2
      try clear hcz15_3
      try clear hcz15_4
      try clear hcz15_5
      try clear hcz15_6
      try clear hcz16_0
      try clear hcz16_1
      try clear hcz16_2
      try clear hcz16_3
      try clear hcz16_4
      try clear hcz26_0
      try clear hcz26_1
      try clear hcz26_2
      try clear hcz26_3
      try clear hcz26_4
      try clear hcz26_5
      try clear hcz26_6
      try clear hcz31_0
      try clear hcz31_1
      try clear hcz31_2
      try clear hcz31_3
      try clear hcz31_4
      try clear hcz31_5
      try clear hcz31_6
      try clear hcz33_0
      try clear hcz33_1
      try clear hcz33_2
      try clear hcz33_3
      try clear hcz33_4
      try clear hcz33_5
      try clear hcz33_6
      try clear hcz37_0
      try clear hcz37_1
      try clear hcz37_2
      try clear hcz37_3
      try clear hcz37_4
      try clear hcz37_5
      try clear hcz37_6
      try clear hcz42_0
      try clear hcz42_1
      try clear hcz42_2
      try clear hcz42_3
      try clear hcz42_4
      try clear hcz42_5
      try clear hcz42_6
      try clear hcz44_0
      try clear hcz44_1
      try clear hcz44_2
      try clear hcz44_3
      try clear hcz44_4
      try clear hcz44_5
      try clear hcz44_6
      try clear hcz47_0
      try clear hcz47_1
      try clear hcz47_2
      try clear hcz47_3
      try clear hcz47_4
      try clear hcz47_5
      try clear hcz47_6
      try clear hcz52_0
      try clear hcz52_1
      try clear hcz52_2
      try clear hcz52_3
      try clear hcz52_4
      try clear hcz52_5
      try clear hcz52_6
      try clear hcz54_0
      try clear hcz54_1
      try clear hcz54_2
      try clear hcz54_3
      try clear hcz54_4
      try clear hcz54_5
      try clear hcz54_6
      try clear hcz57_0
      try clear hcz57_1
      try clear hcz57_2
      try clear hcz57_3
      try clear hcz57_4
      try clear hcz57_5
      try clear hcz57_6
      try clear hcz62_0
      try clear hcz62_1
      try clear hcz62_2
      try clear hcz62_3
      try clear hcz62_4
      try clear hcz62_5
      try clear hcz62_6
      try clear hcz64_0
      try clear hcz64_1
      try clear hcz64_2
      try clear hcz64_3
      try clear hcz64_4
      try clear hcz64_5
      try clear hcz64_6
      try clear hcz68_0
      try clear hcz68_1
      try clear hcz68_2
      try clear hcz68_3
      try clear hcz68_4
      try clear hcz68_5
      try clear hcz68_6
      try clear hcz8_0
      try clear hcz8_1
      try clear hcz8_2
      try clear hcz8_3
      try clear hcz8_4
      try clear hcz8_5
      try clear hcz8_6
      try clear hfz11_0
      try clear hfz11_1
      try clear hfz11_2
      try clear hfz11_3
      try clear hfz11_4
      try clear hfz11_5
      try clear hfz11_6
      try clear hfz12_0
      try clear hfz12_1
      try clear hfz12_2
      try clear hfz12_3
      try clear hfz12_4
      try clear hfz15_0
      try clear hfz15_1
      try clear hfz15_2
      try clear hfz15_3
      try clear hfz15_4
      try clear hfz15_5
      try clear hfz15_6
      try clear hfz16_0
      try clear hfz16_1
      try clear hfz16_2
      try clear hfz16_3
      try clear hfz16_4
      try clear hfz26_0
      try clear hfz26_1
      try clear hfz26_2
      try clear hfz26_3
      try clear hfz26_4
      try clear hfz26_5
      try clear hfz26_6
      try clear hfz31_0
      try clear hfz31_1
      try clear hfz31_2
      try clear hfz31_3
      try clear hfz31_4
      try clear hfz31_5
      try clear hfz31_6
      try clear hfz33_0
      try clear hfz33_1
      try clear hfz33_2
      try clear hfz33_3
      try clear hfz33_4
      try clear hfz33_5
      try clear hfz33_6
      try clear hfz37_0
      try clear hfz37_1
      try clear hfz37_2
      try clear hfz37_3
      try clear hfz37_4
      try clear hfz37_5
      try clear hfz37_6
      try clear hfz42_0
      try clear hfz42_1
      try clear hfz42_2
      try clear hfz42_3
      try clear hfz42_4
      try clear hfz42_5
      try clear hfz42_6
      try clear hfz44_0
      try clear hfz44_1
      try clear hfz44_2
      try clear hfz44_3
      try clear hfz44_4
      try clear hfz44_5
      try clear hfz44_6
      try clear hfz47_0
      try clear hfz47_1
      try clear hfz47_2
      try clear hfz47_3
      try clear hfz47_4
      try clear hfz47_5
      try clear hfz47_6
      try clear hfz52_0
      try clear hfz52_1
      try clear hfz52_2
      try clear hfz52_3
      try clear hfz52_4
      try clear hfz52_5
      try clear hfz52_6
      try clear hfz54_0
      try clear hfz54_1
      try clear hfz54_2
      try clear hfz54_3
      try clear hfz54_4
      try clear hfz54_5
      try clear hfz54_6
      try clear hfz57_0
      try clear hfz57_1
      try clear hfz57_2
      try clear hfz57_3
      try clear hfz57_4
      try clear hfz57_5
      try clear hfz57_6
      try clear hfz62_0
      try clear hfz62_1
      try clear hfz62_2
      try clear hfz62_3
      try clear hfz62_4
      try clear hfz62_5
      try clear hfz62_6
      try clear hfz64_0
      try clear hfz64_1
      try clear hfz64_2
      try clear hfz64_3
      try clear hfz64_4
      try clear hfz64_5
      try clear hfz64_6
      try clear hfz68_0
      try clear hfz68_1
      try clear hfz68_2
      try clear hfz68_3
      try clear hfz68_4
      try clear hfz68_5
      try clear hfz68_6
      try clear hfz8_0
      try clear hfz8_1
      try clear hfz8_2
      try clear hfz8_3
      try clear hfz8_4
      try clear hfz8_5
      try clear hfz8_6
      try clear p2
      obtain ⟨kq, x53_54, rfl, HA, HJ54, HO_310001, BK296, BK297, BK309, HB⟩ := hcut
      cases kq with
      | zero => exact absurd HA.out (by simp [wherrylaw21_SenderOver.j1])
      | succ kj54 =>
       have H := HA.out
       clear HA
       simp only [wherrylaw21_SenderOver.j1] at H
       by_cases c69 : x53_54 = true
       ·subst c69
        have H1 : (some false) = some r := by rw [if_pos rfl] at H; exact H
        clear H
        have H := H1
        clear H1
        obtain rfl := Option.some.inj H
        go_wp2
        go_ret
        exact ⟨by first | rfl | (simp [errW_none, errW_some] <;> rfl) | (simp [*, errW_none, errW_some] <;> rfl), by repeat (first | (with_reducible first | exact HB.out | apply b1 | apply b2 | apply b3 | refine below_set ?_ GE296.out | refine below_set ?_ GE297.out | refine below_set ?_ GE309.out) | exact HB.out)⟩
       ·replace c69 := Bool.eq_false_iff.mpr c69
        subst c69
        have H1 : ((sender_Hear.f kj54 t299 t300 t303 t304 t305 t306 t307 a1_0 a1_1 a1_2 a1_3 l1_4).bind fun bt312 => ((sender_Tick.f kj54 t299 t300 t303 t304 t305 t306 t307).bind fun bt323 => ((wherryref18_Frame.f kj54 a1_0 a1_1 a1_2 a1_3 l1_4).bind fun t337 => (if t337 = true then (if bt312.2.2.2.2.2.2.2 = 11 then ((wherryref18_Frame.f kj54 a1_0 a1_1 a1_2 a1_3 l1_4).bind fun t338 => (if t338 = true then (wherrylaw21_SenderOver.j2 kj54 bt323.2.2.2.2.2.2.2.1 bt323.2.2.2.2.2.2.2.2 false t299 t300 t303 t304 t305 t306 t307 bt312.1 bt312.2.1 bt312.2.2.1 bt312.2.2.2.1 bt312.2.2.2.2.1 bt312.2.2.2.2.2.1 bt312.2.2.2.2.2.2.1 bt323.1 bt323.2.1 bt323.2.2.1 bt323.2.2.2.1 bt323.2.2.2.2.1 bt323.2.2.2.2.2.1 bt323.2.2.2.2.2.2.1) else (wherrylaw21_SenderOver.j2 kj54 bt323.2.2.2.2.2.2.2.1 bt323.2.2.2.2.2.2.2.2 (bt312.2.2.2.2.2.2.2 != 1) t299 t300 t303 t304 t305 t306 t307 bt312.1 bt312.2.1 bt312.2.2.1 bt312.2.2.2.1 bt312.2.2.2.2.1 bt312.2.2.2.2.2.1 bt312.2.2.2.2.2.2.1 bt323.1 bt323.2.1 bt323.2.2.1 bt323.2.2.2.1 bt323.2.2.2.2.1 bt323.2.2.2.2.2.1 bt323.2.2.2.2.2.2.1))) else (wherrylaw21_SenderOver.j2 kj54 bt323.2.2.2.2.2.2.2.1 bt323.2.2.2.2.2.2.2.2 true t299 t300 t303 t304 t305 t306 t307 bt312.1 bt312.2.1 bt312.2.2.1 bt312.2.2.2.1 bt312.2.2.2.2.1 bt312.2.2.2.2.2.1 bt312.2.2.2.2.2.2.1 bt323.1 bt323.2.1 bt323.2.2.1 bt323.2.2.2.1 bt323.2.2.2.2.1 bt323.2.2.2.2.2.1 bt323.2.2.2.2.2.2.1)) else ((wherryref18_Frame.f kj54 a1_0 a1_1 a1_2 a1_3 l1_4).bind fun t339 => (if t339 = true then (wherrylaw21_SenderOver.j2 kj54 bt323.2.2.2.2.2.2.2.1 bt323.2.2.2.2.2.2.2.2 false t299 t300 t303 t304 t305 t306 t307 bt312.1 bt312.2.1 bt312.2.2.1 bt312.2.2.2.1 bt312.2.2.2.2.1 bt312.2.2.2.2.2.1 bt312.2.2.2.2.2.2.1 bt323.1 bt323.2.1 bt323.2.2.1 bt323.2.2.2.1 bt323.2.2.2.2.1 bt323.2.2.2.2.2.1 bt323.2.2.2.2.2.2.1) else (wherrylaw21_SenderOver.j2 kj54 bt323.2.2.2.2.2.2.2.1 bt323.2.2.2.2.2.2.2.2 (bt312.2.2.2.2.2.2.2 != 1) t299 t300 t303 t304 t305 t306 t307 bt312.1 bt312.2.1 bt312.2.2.1 bt312.2.2.2.1 bt312.2.2.2.2.1 bt312.2.2.2.2.2.1 bt312.2.2.2.2.2.2.1 bt323.1 bt323.2.1 bt323.2.2.1 bt323.2.2.2.1 bt323.2.2.2.2.1 bt323.2.2.2.2.2.1 bt323.2.2.2.2.2.2.1))))))) = some r := by rw [if_neg (show ¬ (false = true) by decide)] at H; exact H
        clear H
        have H := H1
        clear H1
        replace H := Option.bind_eq_some_iff.mp H
        obtain ⟨⟨t312, t313, t316, t317, t318, t319, t320, t321⟩, A700, H⟩ := H
        replace H : ((sender_Tick.f kj54 t299 t300 t303 t304 t305 t306 t307).bind fun bt323 => ((wherryref18_Frame.f kj54 a1_0 a1_1 a1_2 a1_3 l1_4).bind fun t337 => (if t337 = true then (if t321 = 11 then ((wherryref18_Frame.f kj54 a1_0 a1_1 a1_2 a1_3 l1_4).bind fun t338 => (if t338 = true then (wherrylaw21_SenderOver.j2 kj54 bt323.2.2.2.2.2.2.2.1 bt323.2.2.2.2.2.2.2.2 false t299 t300 t303 t304 t305 t306 t307 t312 t313 t316 t317 t318 t319 t320 bt323.1 bt323.2.1 bt323.2.2.1 bt323.2.2.2.1 bt323.2.2.2.2.1 bt323.2.2.2.2.2.1 bt323.2.2.2.2.2.2.1) else (wherrylaw21_SenderOver.j2 kj54 bt323.2.2.2.2.2.2.2.1 bt323.2.2.2.2.2.2.2.2 (t321 != 1) t299 t300 t303 t304 t305 t306 t307 t312 t313 t316 t317 t318 t319 t320 bt323.1 bt323.2.1 bt323.2.2.1 bt323.2.2.2.1 bt323.2.2.2.2.1 bt323.2.2.2.2.2.1 bt323.2.2.2.2.2.2.1))) else (wherrylaw21_SenderOver.j2 kj54 bt323.2.2.2.2.2.2.2.1 bt323.2.2.2.2.2.2.2.2 true t299 t300 t303 t304 t305 t306 t307 t312 t313 t316 t317 t318 t319 t320 bt323.1 bt323.2.1 bt323.2.2.1 bt323.2.2.2.1 bt323.2.2.2.2.1 bt323.2.2.2.2.2.1 bt323.2.2.2.2.2.2.1)) else ((wherryref18_Frame.f kj54 a1_0 a1_1 a1_2 a1_3 l1_4).bind fun t339 => (if t339 = true then (wherrylaw21_SenderOver.j2 kj54 bt323.2.2.2.2.2.2.2.1 bt323.2.2.2.2.2.2.2.2 false t299 t300 t303 t304 t305 t306 t307 t312 t313 t316 t317 t318 t319 t320 bt323.1 bt323.2.1 bt323.2.2.1 bt323.2.2.2.1 bt323.2.2.2.2.1 bt323.2.2.2.2.2.1 bt323.2.2.2.2.2.2.1) else (wherrylaw21_SenderOver.j2 kj54 bt323.2.2.2.2.2.2.2.1 bt323.2.2.2.2.2.2.2.2 (t321 != 1) t299 t300 t303 t304 t305 t306 t307 t312 t313 t316 t317 t318 t319 t320 bt323.1 bt323.2.1 bt323.2.2.1 bt323.2.2.2.1 bt323.2.2.2.2.1 bt323.2.2.2.2.2.1 bt323.2.2.2.2.2.2.1)))))) = some r := H
        have A70 := Aside0.mk A700
        clear A700
        replace H := Option.bind_eq_some_iff.mp H
        obtain ⟨⟨t323, t324, t327, t328, t329, t330, t331, t332, t335⟩, A710, H⟩ := H
        replace H : ((wherryref18_Frame.f kj54 a1_0 a1_1 a1_2 a1_3 l1_4).bind fun t337 => (if t337 = true then (if t321 = 11 then ((wherryref18_Frame.f kj54 a1_0 a1_1 a1_2 a1_3 l1_4).bind fun t338 => (if t338 = true then (wherrylaw21_SenderOver.j2 kj54 t332 t335 false t299 t300 t303 t304 t305 t306 t307 t312 t313 t316 t317 t318 t319 t320 t323 t324 t327 t328 t329 t330 t331) else (wherrylaw21_SenderOver.j2 kj54 t332 t335 (t321 != 1) t299 t300 t303 t304 t305 t306 t307 t312 t313 t316 t317 t318 t319 t320 t323 t324 t327 t328 t329 t330 t331))) else (wherrylaw21_SenderOver.j2 kj54 t332 t335 true t299 t300 t303 t304 t305 t306 t307 t312 t313 t316 t317 t318 t319 t320 t323 t324 t327 t328 t329 t330 t331)) else ((wherryref18_Frame.f kj54 a1_0 a1_1 a1_2 a1_3 l1_4).bind fun t339 => (if t339 = true then (wherrylaw21_SenderOver.j2 kj54 t332 t335 false t299 t300 t303 t304 t305 t306 t307 t312 t313 t316 t317 t318 t319 t320 t323 t324 t327 t328 t329 t330 t331) else (wherrylaw21_SenderOver.j2 kj54 t332 t335 (t321 != 1) t299 t300 t303 t304 t305 t306 t307 t312 t313 t316 t317 t318 t319 t320 t323 t324 t327 t328 t329 t330 t331))))) = some r := H
        have A71 := Aside0.mk A710
        clear A710
        have HC72 := Aside0.mk H
        clear H
        have hnb73 := NB309_296.out
        have hnc73 := NB296_309.out
        have hnb74 := NB309_297.out
        have hnc74 := NB297_309.out
        obtain ⟨hcz75_0, hcz75_1, hcz75_2, hcz75_3, hcz75_4, hcz75_5, hcz75_6, hfz75_0, hfz75_1, hfz75_2, hfz75_3, hfz75_4, hfz75_5, hfz75_6⟩ := cells7 BK309.out
        have hnb76 := NB297_296.out
        have hnc76 := NB296_297.out
        obtain ⟨hcz77_0, hcz77_1, hcz77_2, hcz77_3, hcz77_4, hfz77_0, hfz77_1, hfz77_2, hfz77_3, hfz77_4⟩ := cells5 BK297.out
        go_upto_region 10 with (first | ((with_reducible refine gate_callee (f := 16) rfl ?_); refine goesL_ (some 57) rfl rfl Try.func16 (by kernel_rfl) rfl #[.agg #[.int .i64 t299, .slice Ao63 t300.length co63, .bool t303, .int .i64 t304, .int .i64 t305, .int .i64 t306, .bool t307], .agg #[.int .i64 a1_0, .int .i64 a1_1, .int .i64 a1_2, .int .i64 a1_3, .slice A1_4 l1_4.length c1_4]] rfl (by (try simp only [List.map_toArray, List.map_cons, List.map_nil]); first | done | rfl | (simp only [List.length_drop, List.length_take]; rfl) | (go_simp; done) | (go_simp; rfl)) ?_; (with_reducible refine (sender_Hear.calls kj54 t299 _ _ t300 t303 t304 t305 t306 t307 a1_0 a1_1 a1_2 a1_3 _ _ l1_4 t312 t313 t316 t317 t318 t319 t320 t321 _ ?side1 ?side2 ?side3 ?side4 A70.out).mono ?_); (case side1 => first | with_reducible exact (Kd.R_reads' HO_310001.out).2.2 | exact sC ((Kd.R_reads' HO_310001.out).2.2)); (case side2 => exact (Kd.R_reads' HO_310001.out).2.1); (case side3 => first | with_reducible exact (Kd.C_below HR1_4.out HB.out) | exact sC ((Kd.C_below HR1_4.out HB.out))); (case side4 => exact HC1_4.out); rintro e w78 ⟨v314, rfl, ho0, hb⟩; refine ⟨_, rfl, ?_⟩; have n0_ := Aside0.mk (Kd.R_elder' (by first | with_reducible exact HO_310001.out | exact sR HO_310001.out) (Kd.R_base ho0) hb); have n1_ := Aside0.mk (Kd.R_lower (Kd.R_new' ho0 (Kd.R_lt (by first | with_reducible exact HO_310001.out | exact sR HO_310001.out))) (below_size (by repeat (first | (with_reducible first | exact HB.out | apply b1 | apply b2 | apply b3 | refine below_set ?_ GE296.out | refine below_set ?_ GE297.out | refine below_set ?_ GE309.out) | exact HB.out)))); have n2_ := Aside0.mk (bK BK296.out hb); have n3_ := Aside0.mk (bK BK297.out hb); have n4_ := Aside0.mk (bK BK309.out hb); have n5_ := Aside0.mk (below_step (by repeat (first | (with_reducible first | exact HB.out | apply b1 | apply b2 | apply b3 | refine below_set ?_ GE296.out | refine below_set ?_ GE297.out | refine below_set ?_ GE309.out) | exact HB.out)) hb); clear HO_310001; clear BK296; clear BK297; clear BK309; clear HB; have HO_310001 := n0_; have HO315 := n1_; have BK296 := n2_; have BK297 := n3_; have BK309 := n4_; have HB := n5_; clear n0_ n1_ n2_ n3_ n4_ n5_; (try clear hb); (try clear hb2); (try clear hk); (try clear hi); (try clear ho0)) | ((with_reducible refine gate_dst (N := 7) rfl ?_); (try (refine gate_guard (by rfl) ?_; dsimp only)); refine box_event ?hg (N := 7) ?hd (cs := #[.int .i64 0, .slice none 0 0, .bool false, .int .i64 0, .int .i64 0, .int .i64 0, .bool false]) (t := 24) ?hr ?_; (case hd => rfl); (case hg => rfl); (case hr => first | (go_simp; done) | (go_simp; rfl)); intro gb322 hg w79 hbox hb; have n0_ := Aside0.mk (bR HO_310001.out hb); have n1_ := Aside0.mk (bR HO315.out hb); have n2_ := Aside0.mk (bK BK296.out hb); have n3_ := Aside0.mk (bK BK297.out hb); have n4_ := Aside0.mk (bK BK309.out hb); have n5_ := Aside0.mk (below_step (by repeat (first | (with_reducible first | exact HB.out | apply b1 | apply b2 | apply b3 | refine below_set ?_ GE296.out | refine below_set ?_ GE297.out | refine below_set ?_ GE309.out) | exact HB.out)) hb); have n6_ := Aside0.mk (hbox); have n7_ := Aside0.mk ((by rw [hg]; exact (below_size (by repeat (first | (with_reducible first | exact HB.out | apply b1 | apply b2 | apply b3 | refine below_set ?_ GE296.out | refine below_set ?_ GE297.out | refine below_set ?_ GE309.out) | exact HB.out))) : w.heap.size ≤ gb322)); have n8_ := Aside0.mk ((by rw [hg]; exact (below_size (by repeat (first | (with_reducible first | exact HB.out | apply b1 | apply b2 | apply b3 | refine below_set ?_ GE296.out | refine below_set ?_ GE297.out | refine below_set ?_ GE309.out) | exact HB.out))) : w.heap.size ≤ gb322)); have n9_ := Aside0.mk ((by rw [hg]; exact Nat.ne_of_lt (blk_lt (g := gb296) (o := .cells #[.int .i64 a0_0, .slice A0_1 l0_1.length c0_1, .bool a0_2, .int .i64 a0_3, .int .i64 a0_4, .int .i64 a0_5, .bool false] 24 (0, 0)) (by first | with_reducible exact BK296.out | exact sK BK296.out)) : gb296 ≠ gb322)); have n10_ := Aside0.mk ((by rw [hg]; exact Nat.ne_of_gt (blk_lt (g := gb296) (o := .cells #[.int .i64 a0_0, .slice A0_1 l0_1.length c0_1, .bool a0_2, .int .i64 a0_3, .int .i64 a0_4, .int .i64 a0_5, .bool false] 24 (0, 0)) (by first | with_reducible exact BK296.out | exact sK BK296.out)) : gb322 ≠ gb296)); have n11_ := Aside0.mk ((by rw [hg]; exact Nat.ne_of_lt (blk_lt (g := gb297) (o := .cells #[.int .i64 a1_0, .int .i64 a1_1, .int .i64 a1_2, .int .i64 a1_3, .slice A1_4 l1_4.length c1_4] 32 (0, 0)) (by first | with_reducible exact BK297.out | exact sK BK297.out)) : gb297 ≠ gb322)); have n12_ := Aside0.mk ((by rw [hg]; exact Nat.ne_of_gt (blk_lt (g := gb297) (o := .cells #[.int .i64 a1_0, .int .i64 a1_1, .int .i64 a1_2, .int .i64 a1_3, .slice A1_4 l1_4.length c1_4] 32 (0, 0)) (by first | with_reducible exact BK297.out | exact sK BK297.out)) : gb322 ≠ gb297)); have n13_ := Aside0.mk ((by rw [hg]; exact Nat.ne_of_lt (blk_lt (g := gb309) (o := .cells #[.int .i64 t299, .slice Ao63 t300.length co63, .bool t303, .int .i64 t304, .int .i64 t305, .int .i64 t306, .bool t307] 24 (0, 0)) (by first | with_reducible exact BK309.out | exact sK BK309.out)) : gb309 ≠ gb322)); have n14_ := Aside0.mk ((by rw [hg]; exact Nat.ne_of_gt (blk_lt (g := gb309) (o := .cells #[.int .i64 t299, .slice Ao63 t300.length co63, .bool t303, .int .i64 t304, .int .i64 t305, .int .i64 t306, .bool t307] 24 (0, 0)) (by first | with_reducible exact BK309.out | exact sK BK309.out)) : gb322 ≠ gb309)); clear HO_310001; clear HO315; clear BK296; clear BK297; clear BK309; clear HB; have HO_310001 := n0_; have HO315 := n1_; have BK296 := n2_; have BK297 := n3_; have BK309 := n4_; have HB := n5_; have BK322 := n6_; have GW322 := n7_; have GE322 := n8_; have NB296_322 := n9_; have NB322_296 := n10_; have NB297_322 := n11_; have NB322_297 := n12_; have NB309_322 := n13_; have NB322_309 := n14_; clear n0_ n1_ n2_ n3_ n4_ n5_ n6_ n7_ n8_ n9_ n10_ n11_ n12_ n13_ n14_; clear hb hbox hg; have hnb80 := NB322_296.out; have hnc80 := NB296_322.out; have hnb81 := NB322_297.out; have hnc81 := NB297_322.out; have hnb82 := NB322_309.out; have hnc82 := NB309_322.out; obtain ⟨hcz83_0, hcz83_1, hcz83_2, hcz83_3, hcz83_4, hcz83_5, hcz83_6, hfz83_0, hfz83_1, hfz83_2, hfz83_3, hfz83_4, hfz83_5, hfz83_6⟩ := cells7 BK322.out; obtain ⟨Ao84, co84, eo84⟩ := Kd.R_slice HO315.out; subst eo84; obtain ⟨hcz85_0, hcz85_1, hcz85_2, hcz85_3, hcz85_4, hcz85_5, hcz85_6, hfz85_0, hfz85_1, hfz85_2, hfz85_3, hfz85_4, hfz85_5, hfz85_6⟩ := cells7 BK309.out) | ((with_reducible refine gate_callee (f := 11) rfl ?_); refine goesL_ (some 62) rfl rfl Try.func11 (by kernel_rfl) rfl #[.agg #[.int .i64 t299, .slice Ao63 t300.length co63, .bool t303, .int .i64 t304, .int .i64 t305, .int .i64 t306, .bool t307]] rfl (by (try simp only [List.map_toArray, List.map_cons, List.map_nil]); first | done | rfl | (simp only [List.length_drop, List.length_take]; rfl) | (go_simp; done) | (go_simp; rfl)) ?_; (with_reducible refine (sender_Tick.calls kj54 t299 _ _ t300 t303 t304 t305 t306 t307 t323 t324 t327 t328 t329 t330 t331 t332 t335 _ ?side1 ?side2 A71.out).mono ?_); (case side1 => refine (Kd.R_reads' (e := 5) (base := w.heap.size) (ok := fun k_ => (True ∧ some k_ ≠ (.slice Ao84 t313.length co84 : Value).ownBlock)) (n := t300.length) (c := co63) ?_).2.2; exact (by (with_reducible repeat (first | apply R1 | apply R2 | apply R3)); exact (Kd.R_mono (Kd.R_far (p := ⟨gb322, 6, none⟩) (Kd.R_far (p := ⟨gb322, 5, none⟩) (Kd.R_far (p := ⟨gb322, 4, none⟩) (Kd.R_far (p := ⟨gb322, 3, none⟩) (Kd.R_far (p := ⟨gb322, 2, none⟩) (Kd.R_far (p := ⟨gb322, 1, none⟩) (Kd.R_far (p := ⟨gb322, 0, none⟩) (Kd.R_types HO_310001.out BK322.out (by decide)) (fun _ hk => hk.2) (.int .i64 t312)) (fun _ hk => hk.2) (.slice Ao84 t313.length co84)) (fun _ hk => hk.2) (.bool t316)) (fun _ hk => hk.2) (.int .i64 t317)) (fun _ hk => hk.2) (.int .i64 t318)) (fun _ hk => hk.2) (.int .i64 t319)) (fun _ hk => hk.2) (.bool t320)) (fun _ h_ => h_.1)))); (case side2 => exact (Kd.R_reads' HO_310001.out).2.1); rintro e w86 ⟨v325, v333, rfl, ho0, ho1, hb⟩; refine ⟨_, rfl, ?_⟩; have n0_ := Aside0.mk (Kd.R_elder' (by (with_reducible repeat (first | apply R1 | apply R2 | apply R3)); exact (Kd.R_mono (Kd.R_far (p := ⟨gb322, 6, none⟩) (Kd.R_far (p := ⟨gb322, 5, none⟩) (Kd.R_far (p := ⟨gb322, 4, none⟩) (Kd.R_far (p := ⟨gb322, 3, none⟩) (Kd.R_far (p := ⟨gb322, 2, none⟩) (Kd.R_far (p := ⟨gb322, 1, none⟩) (Kd.R_far (p := ⟨gb322, 0, none⟩) (Kd.R_types HO_310001.out BK322.out (by decide)) (fun _ hk => hk.2) (.int .i64 t312)) (fun _ hk => hk.2) (.slice Ao84 t313.length co84)) (fun _ hk => hk.2) (.bool t316)) (fun _ hk => hk.2) (.int .i64 t317)) (fun _ hk => hk.2) (.int .i64 t318)) (fun _ hk => hk.2) (.int .i64 t319)) (fun _ hk => hk.2) (.bool t320)) (fun _ h_ => h_.1))) (Kd.R_base ho0) hb); have n1_ := Aside0.mk (Kd.R_elder' (by (with_reducible repeat (first | apply R1 | apply R2 | apply R3)); exact (Kd.R_mono (Kd.R_far (p := ⟨gb322, 6, none⟩) (Kd.R_far (p := ⟨gb322, 5, none⟩) (Kd.R_far (p := ⟨gb322, 4, none⟩) (Kd.R_far (p := ⟨gb322, 3, none⟩) (Kd.R_far (p := ⟨gb322, 2, none⟩) (Kd.R_far (p := ⟨gb322, 1, none⟩) (Kd.R_far (p := ⟨gb322, 0, none⟩) (Kd.R_types HO315.out BK322.out (by decide)) (fun _ hk => hk.2) (.int .i64 t312)) (fun _ hk => hk.2) (.slice Ao84 t313.length co84)) (fun _ hk => hk.2) (.bool t316)) (fun _ hk => hk.2) (.int .i64 t317)) (fun _ hk => hk.2) (.int .i64 t318)) (fun _ hk => hk.2) (.int .i64 t319)) (fun _ hk => hk.2) (.bool t320)) (fun _ h_ => h_.1))) (Kd.R_base ho0) hb); have n2_ := Aside0.mk (Kd.R_lower (Kd.R_new' (Kd.R_new' ho0 (Kd.R_lt (by (with_reducible repeat (first | apply R1 | apply R2 | apply R3)); exact (Kd.R_mono (Kd.R_far (p := ⟨gb322, 6, none⟩) (Kd.R_far (p := ⟨gb322, 5, none⟩) (Kd.R_far (p := ⟨gb322, 4, none⟩) (Kd.R_far (p := ⟨gb322, 3, none⟩) (Kd.R_far (p := ⟨gb322, 2, none⟩) (Kd.R_far (p := ⟨gb322, 1, none⟩) (Kd.R_far (p := ⟨gb322, 0, none⟩) (Kd.R_types HO_310001.out BK322.out (by decide)) (fun _ hk => hk.2) (.int .i64 t312)) (fun _ hk => hk.2) (.slice Ao84 t313.length co84)) (fun _ hk => hk.2) (.bool t316)) (fun _ hk => hk.2) (.int .i64 t317)) (fun _ hk => hk.2) (.int .i64 t318)) (fun _ hk => hk.2) (.int .i64 t319)) (fun _ hk => hk.2) (.bool t320)) (fun _ h_ => h_.1))))) (Kd.R_lt (by (with_reducible repeat (first | apply R1 | apply R2 | apply R3)); exact (Kd.R_mono (Kd.R_far (p := ⟨gb322, 6, none⟩) (Kd.R_far (p := ⟨gb322, 5, none⟩) (Kd.R_far (p := ⟨gb322, 4, none⟩) (Kd.R_far (p := ⟨gb322, 3, none⟩) (Kd.R_far (p := ⟨gb322, 2, none⟩) (Kd.R_far (p := ⟨gb322, 1, none⟩) (Kd.R_far (p := ⟨gb322, 0, none⟩) (Kd.R_types HO315.out BK322.out (by decide)) (fun _ hk => hk.2) (.int .i64 t312)) (fun _ hk => hk.2) (.slice Ao84 t313.length co84)) (fun _ hk => hk.2) (.bool t316)) (fun _ hk => hk.2) (.int .i64 t317)) (fun _ hk => hk.2) (.int .i64 t318)) (fun _ hk => hk.2) (.int .i64 t319)) (fun _ hk => hk.2) (.bool t320)) (fun _ h_ => h_.1))))) (below_size (by repeat (first | (with_reducible first | exact HB.out | apply b1 | apply b2 | apply b3 | refine below_set ?_ GE296.out | refine below_set ?_ GE297.out | refine below_set ?_ GE309.out | refine below_set ?_ GE322.out) | exact HB.out)))); have n3_ := Aside0.mk (Kd.S_lower (Kd.S_newB (Kd.S_new' (Kd.S_new' ho1 (Kd.R_lt (by (with_reducible repeat (first | apply R1 | apply R2 | apply R3)); exact (Kd.R_mono (Kd.R_far (p := ⟨gb322, 6, none⟩) (Kd.R_far (p := ⟨gb322, 5, none⟩) (Kd.R_far (p := ⟨gb322, 4, none⟩) (Kd.R_far (p := ⟨gb322, 3, none⟩) (Kd.R_far (p := ⟨gb322, 2, none⟩) (Kd.R_far (p := ⟨gb322, 1, none⟩) (Kd.R_far (p := ⟨gb322, 0, none⟩) (Kd.R_types HO_310001.out BK322.out (by decide)) (fun _ hk => hk.2) (.int .i64 t312)) (fun _ hk => hk.2) (.slice Ao84 t313.length co84)) (fun _ hk => hk.2) (.bool t316)) (fun _ hk => hk.2) (.int .i64 t317)) (fun _ hk => hk.2) (.int .i64 t318)) (fun _ hk => hk.2) (.int .i64 t319)) (fun _ hk => hk.2) (.bool t320)) (fun _ h_ => h_.1))))) (Kd.R_lt (by (with_reducible repeat (first | apply R1 | apply R2 | apply R3)); exact (Kd.R_mono (Kd.R_far (p := ⟨gb322, 6, none⟩) (Kd.R_far (p := ⟨gb322, 5, none⟩) (Kd.R_far (p := ⟨gb322, 4, none⟩) (Kd.R_far (p := ⟨gb322, 3, none⟩) (Kd.R_far (p := ⟨gb322, 2, none⟩) (Kd.R_far (p := ⟨gb322, 1, none⟩) (Kd.R_far (p := ⟨gb322, 0, none⟩) (Kd.R_types HO315.out BK322.out (by decide)) (fun _ hk => hk.2) (.int .i64 t312)) (fun _ hk => hk.2) (.slice Ao84 t313.length co84)) (fun _ hk => hk.2) (.bool t316)) (fun _ hk => hk.2) (.int .i64 t317)) (fun _ hk => hk.2) (.int .i64 t318)) (fun _ hk => hk.2) (.int .i64 t319)) (fun _ hk => hk.2) (.bool t320)) (fun _ h_ => h_.1))))) (g := gb297) (o := .cells #[.int .i64 a1_0, .int .i64 a1_1, .int .i64 a1_2, .int .i64 a1_3, .slice A1_4 l1_4.length c1_4] 32 (0, 0)) (by (with_reducible repeat (first | refine k2 ?_ _ | refine k3 ?_ | refine k1 ?_ _)); refine blk_far ?_ NB297_322.out _; (with_reducible repeat (first | refine k2 ?_ _ | refine k3 ?_ | refine k1 ?_ _)); refine blk_far ?_ NB297_322.out _; (with_reducible repeat (first | refine k2 ?_ _ | refine k3 ?_ | refine k1 ?_ _)); refine blk_far ?_ NB297_322.out _; (with_reducible repeat (first | refine k2 ?_ _ | refine k3 ?_ | refine k1 ?_ _)); refine blk_far ?_ NB297_322.out _; (with_reducible repeat (first | refine k2 ?_ _ | refine k3 ?_ | refine k1 ?_ _)); refine blk_far ?_ NB297_322.out _; (with_reducible repeat (first | refine k2 ?_ _ | refine k3 ?_ | refine k1 ?_ _)); refine blk_far ?_ NB297_322.out _; (with_reducible repeat (first | refine k2 ?_ _ | refine k3 ?_ | refine k1 ?_ _)); refine blk_far ?_ NB297_322.out _; (with_reducible repeat (first | refine k2 ?_ _ | refine k3 ?_ | refine k1 ?_ _)); exact BK297.out)) (below_size (by repeat (first | (with_reducible first | exact HB.out | apply b1 | apply b2 | apply b3 | refine below_set ?_ GE296.out | refine below_set ?_ GE297.out | refine below_set ?_ GE309.out | refine below_set ?_ GE322.out) | exact HB.out)))); have n4_ := Aside0.mk (blk_below (g := gb296) (o := .cells #[.int .i64 a0_0, .slice A0_1 l0_1.length c0_1, .bool a0_2, .int .i64 a0_3, .int .i64 a0_4, .int .i64 a0_5, .bool false] 24 (0, 0)) (by (with_reducible repeat (first | refine k2 ?_ _ | refine k3 ?_ | refine k1 ?_ _)); refine blk_far ?_ NB296_322.out _; (with_reducible repeat (first | refine k2 ?_ _ | refine k3 ?_ | refine k1 ?_ _)); refine blk_far ?_ NB296_322.out _; (with_reducible repeat (first | refine k2 ?_ _ | refine k3 ?_ | refine k1 ?_ _)); refine blk_far ?_ NB296_322.out _; (with_reducible repeat (first | refine k2 ?_ _ | refine k3 ?_ | refine k1 ?_ _)); refine blk_far ?_ NB296_322.out _; (with_reducible repeat (first | refine k2 ?_ _ | refine k3 ?_ | refine k1 ?_ _)); refine blk_far ?_ NB296_322.out _; (with_reducible repeat (first | refine k2 ?_ _ | refine k3 ?_ | refine k1 ?_ _)); refine blk_far ?_ NB296_322.out _; (with_reducible repeat (first | refine k2 ?_ _ | refine k3 ?_ | refine k1 ?_ _)); refine blk_far ?_ NB296_322.out _; (with_reducible repeat (first | refine k2 ?_ _ | refine k3 ?_ | refine k1 ?_ _)); exact BK296.out) hb); have n5_ := Aside0.mk (blk_below (g := gb297) (o := .cells #[.int .i64 a1_0, .int .i64 a1_1, .int .i64 a1_2, .int .i64 a1_3, .slice A1_4 l1_4.length c1_4] 32 (0, 0)) (by (with_reducible repeat (first | refine k2 ?_ _ | refine k3 ?_ | refine k1 ?_ _)); refine blk_far ?_ NB297_322.out _; (with_reducible repeat (first | refine k2 ?_ _ | refine k3 ?_ | refine k1 ?_ _)); refine blk_far ?_ NB297_322.out _; (with_reducible repeat (first | refine k2 ?_ _ | refine k3 ?_ | refine k1 ?_ _)); refine blk_far ?_ NB297_322.out _; (with_reducible repeat (first | refine k2 ?_ _ | refine k3 ?_ | refine k1 ?_ _)); refine blk_far ?_ NB297_322.out _; (with_reducible repeat (first | refine k2 ?_ _ | refine k3 ?_ | refine k1 ?_ _)); refine blk_far ?_ NB297_322.out _; (with_reducible repeat (first | refine k2 ?_ _ | refine k3 ?_ | refine k1 ?_ _)); refine blk_far ?_ NB297_322.out _; (with_reducible repeat (first | refine k2 ?_ _ | refine k3 ?_ | refine k1 ?_ _)); refine blk_far ?_ NB297_322.out _; (with_reducible repeat (first | refine k2 ?_ _ | refine k3 ?_ | refine k1 ?_ _)); exact BK297.out) hb); have n6_ := Aside0.mk (blk_below (g := gb309) (o := .cells #[.int .i64 t299, .slice Ao63 t300.length co63, .bool t303, .int .i64 t304, .int .i64 t305, .int .i64 t306, .bool t307] 24 (0, 0)) (by (with_reducible repeat (first | refine k2 ?_ _ | refine k3 ?_ | refine k1 ?_ _)); refine blk_far ?_ NB309_322.out _; (with_reducible repeat (first | refine k2 ?_ _ | refine k3 ?_ | refine k1 ?_ _)); refine blk_far ?_ NB309_322.out _; (with_reducible repeat (first | refine k2 ?_ _ | refine k3 ?_ | refine k1 ?_ _)); refine blk_far ?_ NB309_322.out _; (with_reducible repeat (first | refine k2 ?_ _ | refine k3 ?_ | refine k1 ?_ _)); refine blk_far ?_ NB309_322.out _; (with_reducible repeat (first | refine k2 ?_ _ | refine k3 ?_ | refine k1 ?_ _)); refine blk_far ?_ NB309_322.out _; (with_reducible repeat (first | refine k2 ?_ _ | refine k3 ?_ | refine k1 ?_ _)); refine blk_far ?_ NB309_322.out _; (with_reducible repeat (first | refine k2 ?_ _ | refine k3 ?_ | refine k1 ?_ _)); refine blk_far ?_ NB309_322.out _; (with_reducible repeat (first | refine k2 ?_ _ | refine k3 ?_ | refine k1 ?_ _)); exact BK309.out) hb); have n7_ := Aside0.mk (blk_below (g := gb322) (o := .cells #[.int .i64 t312, .slice Ao84 t313.length co84, .bool t316, .int .i64 t317, .int .i64 t318, .int .i64 t319, .bool t320] 24 (0, 0)) (by (with_reducible repeat (first | refine k2 ?_ _ | refine k3 ?_ | refine k1 ?_ _)); refine blk_put (cs := #[.int .i64 t312, .slice Ao84 t313.length co84, .bool t316, .int .i64 t317, .int .i64 t318, .int .i64 t319, .bool false]) ?_ 6 _ rfl; (with_reducible repeat (first | refine k2 ?_ _ | refine k3 ?_ | refine k1 ?_ _)); refine blk_put (cs := #[.int .i64 t312, .slice Ao84 t313.length co84, .bool t316, .int .i64 t317, .int .i64 t318, .int .i64 0, .bool false]) ?_ 5 _ rfl; (with_reducible repeat (first | refine k2 ?_ _ | refine k3 ?_ | refine k1 ?_ _)); refine blk_put (cs := #[.int .i64 t312, .slice Ao84 t313.length co84, .bool t316, .int .i64 t317, .int .i64 0, .int .i64 0, .bool false]) ?_ 4 _ rfl; (with_reducible repeat (first | refine k2 ?_ _ | refine k3 ?_ | refine k1 ?_ _)); refine blk_put (cs := #[.int .i64 t312, .slice Ao84 t313.length co84, .bool t316, .int .i64 0, .int .i64 0, .int .i64 0, .bool false]) ?_ 3 _ rfl; (with_reducible repeat (first | refine k2 ?_ _ | refine k3 ?_ | refine k1 ?_ _)); refine blk_put (cs := #[.int .i64 t312, .slice Ao84 t313.length co84, .bool false, .int .i64 0, .int .i64 0, .int .i64 0, .bool false]) ?_ 2 _ rfl; (with_reducible repeat (first | refine k2 ?_ _ | refine k3 ?_ | refine k1 ?_ _)); refine blk_put (cs := #[.int .i64 t312, .slice none 0 0, .bool false, .int .i64 0, .int .i64 0, .int .i64 0, .bool false]) ?_ 1 _ rfl; (with_reducible repeat (first | refine k2 ?_ _ | refine k3 ?_ | refine k1 ?_ _)); refine blk_put (cs := #[.int .i64 0, .slice none 0 0, .bool false, .int .i64 0, .int .i64 0, .int .i64 0, .bool false]) ?_ 0 _ rfl; (with_reducible repeat (first | refine k2 ?_ _ | refine k3 ?_ | refine k1 ?_ _)); exact BK322.out) hb); have n8_ := Aside0.mk (below_step (by repeat (first | (with_reducible first | exact HB.out | apply b1 | apply b2 | apply b3 | refine below_set ?_ GE296.out | refine below_set ?_ GE297.out | refine below_set ?_ GE309.out | refine below_set ?_ GE322.out) | exact HB.out)) hb); clear HO_310001; clear HO315; clear BK296; clear BK297; clear BK309; clear BK322; clear HB; have HO_310001 := n0_; have HO315 := n1_; have HO326 := n2_; have HO334 := n3_; have BK296 := n4_; have BK297 := n5_; have BK309 := n6_; have BK322 := n7_; have HB := n8_; clear n0_ n1_ n2_ n3_ n4_ n5_ n6_ n7_ n8_; (try clear hb); (try clear hb2); (try clear hk); (try clear hi); (try clear ho0); (try clear ho1)) | ((with_reducible refine gate_dst (N := 9) rfl ?_); (try (refine gate_guard (by rfl) ?_; dsimp only)); refine box_event ?hg (N := 9) ?hd (cs := #[.int .i64 0, .slice none 0 0, .bool false, .int .i64 0, .int .i64 0, .int .i64 0, .bool false]) (t := 24) ?hr ?_; (case hd => rfl); (case hg => rfl); (case hr => first | (go_simp; done) | (go_simp; rfl)); intro gb336 hg w87 hbox hb; have n0_ := Aside0.mk (bR HO_310001.out hb); have n1_ := Aside0.mk (bR HO315.out hb); have n2_ := Aside0.mk (bR HO326.out hb); have n3_ := Aside0.mk (Kd.S_below (by first | with_reducible exact HO334.out | exact sS HO334.out) hb); have n4_ := Aside0.mk (bK BK296.out hb); have n5_ := Aside0.mk (bK BK297.out hb); have n6_ := Aside0.mk (bK BK309.out hb); have n7_ := Aside0.mk (bK BK322.out hb); have n8_ := Aside0.mk (below_step (by repeat (first | (with_reducible first | exact HB.out | apply b1 | apply b2 | apply b3 | refine below_set ?_ GE296.out | refine below_set ?_ GE297.out | refine below_set ?_ GE309.out | refine below_set ?_ GE322.out) | exact HB.out)) hb); have n9_ := Aside0.mk (hbox); have n10_ := Aside0.mk ((by rw [hg]; exact (below_size (by repeat (first | (with_reducible first | exact HB.out | apply b1 | apply b2 | apply b3 | refine below_set ?_ GE296.out | refine below_set ?_ GE297.out | refine below_set ?_ GE309.out | refine below_set ?_ GE322.out) | exact HB.out))) : w.heap.size ≤ gb336)); have n11_ := Aside0.mk ((by rw [hg]; exact (below_size (by repeat (first | (with_reducible first | exact HB.out | apply b1 | apply b2 | apply b3 | refine below_set ?_ GE296.out | refine below_set ?_ GE297.out | refine below_set ?_ GE309.out | refine below_set ?_ GE322.out) | exact HB.out))) : w.heap.size ≤ gb336)); have n12_ := Aside0.mk ((by rw [hg]; exact Nat.ne_of_lt (blk_lt (g := gb296) (o := .cells #[.int .i64 a0_0, .slice A0_1 l0_1.length c0_1, .bool a0_2, .int .i64 a0_3, .int .i64 a0_4, .int .i64 a0_5, .bool false] 24 (0, 0)) (by first | with_reducible exact BK296.out | exact sK BK296.out)) : gb296 ≠ gb336)); have n13_ := Aside0.mk ((by rw [hg]; exact Nat.ne_of_gt (blk_lt (g := gb296) (o := .cells #[.int .i64 a0_0, .slice A0_1 l0_1.length c0_1, .bool a0_2, .int .i64 a0_3, .int .i64 a0_4, .int .i64 a0_5, .bool false] 24 (0, 0)) (by first | with_reducible exact BK296.out | exact sK BK296.out)) : gb336 ≠ gb296)); have n14_ := Aside0.mk ((by rw [hg]; exact Nat.ne_of_lt (blk_lt (g := gb297) (o := .cells #[.int .i64 a1_0, .int .i64 a1_1, .int .i64 a1_2, .int .i64 a1_3, .slice A1_4 l1_4.length c1_4] 32 (0, 0)) (by first | with_reducible exact BK297.out | exact sK BK297.out)) : gb297 ≠ gb336)); have n15_ := Aside0.mk ((by rw [hg]; exact Nat.ne_of_gt (blk_lt (g := gb297) (o := .cells #[.int .i64 a1_0, .int .i64 a1_1, .int .i64 a1_2, .int .i64 a1_3, .slice A1_4 l1_4.length c1_4] 32 (0, 0)) (by first | with_reducible exact BK297.out | exact sK BK297.out)) : gb336 ≠ gb297)); have n16_ := Aside0.mk ((by rw [hg]; exact Nat.ne_of_lt (blk_lt (g := gb309) (o := .cells #[.int .i64 t299, .slice Ao63 t300.length co63, .bool t303, .int .i64 t304, .int .i64 t305, .int .i64 t306, .bool t307] 24 (0, 0)) (by first | with_reducible exact BK309.out | exact sK BK309.out)) : gb309 ≠ gb336)); have n17_ := Aside0.mk ((by rw [hg]; exact Nat.ne_of_gt (blk_lt (g := gb309) (o := .cells #[.int .i64 t299, .slice Ao63 t300.length co63, .bool t303, .int .i64 t304, .int .i64 t305, .int .i64 t306, .bool t307] 24 (0, 0)) (by first | with_reducible exact BK309.out | exact sK BK309.out)) : gb336 ≠ gb309)); have n18_ := Aside0.mk ((by rw [hg]; exact Nat.ne_of_lt (blk_lt (g := gb322) (o := .cells #[.int .i64 t312, .slice Ao84 t313.length co84, .bool t316, .int .i64 t317, .int .i64 t318, .int .i64 t319, .bool t320] 24 (0, 0)) (by first | with_reducible exact BK322.out | exact sK BK322.out)) : gb322 ≠ gb336)); have n19_ := Aside0.mk ((by rw [hg]; exact Nat.ne_of_gt (blk_lt (g := gb322) (o := .cells #[.int .i64 t312, .slice Ao84 t313.length co84, .bool t316, .int .i64 t317, .int .i64 t318, .int .i64 t319, .bool t320] 24 (0, 0)) (by first | with_reducible exact BK322.out | exact sK BK322.out)) : gb336 ≠ gb322)); clear HO_310001; clear HO315; clear HO326; clear HO334; clear BK296; clear BK297; clear BK309; clear BK322; clear HB; have HO_310001 := n0_; have HO315 := n1_; have HO326 := n2_; have HO334 := n3_; have BK296 := n4_; have BK297 := n5_; have BK309 := n6_; have BK322 := n7_; have HB := n8_; have BK336 := n9_; have GW336 := n10_; have GE336 := n11_; have NB296_336 := n12_; have NB336_296 := n13_; have NB297_336 := n14_; have NB336_297 := n15_; have NB309_336 := n16_; have NB336_309 := n17_; have NB322_336 := n18_; have NB336_322 := n19_; clear n0_ n1_ n2_ n3_ n4_ n5_ n6_ n7_ n8_ n9_ n10_ n11_ n12_ n13_ n14_ n15_ n16_ n17_ n18_ n19_; clear hb hbox hg; have hnb88 := NB336_296.out; have hnc88 := NB296_336.out; have hnb89 := NB336_297.out; have hnc89 := NB297_336.out; have hnb90 := NB336_309.out; have hnc90 := NB309_336.out; have hnb91 := NB336_322.out; have hnc91 := NB322_336.out; obtain ⟨hcz92_0, hcz92_1, hcz92_2, hcz92_3, hcz92_4, hcz92_5, hcz92_6, hfz92_0, hfz92_1, hfz92_2, hfz92_3, hfz92_4, hfz92_5, hfz92_6⟩ := cells7 BK336.out; obtain ⟨Ao93, co93, eo93⟩ := Kd.R_slice HO326.out; subst eo93))
        (try simp only [Act.put, List.setIfInBounds_toArray, List.set_cons_zero, List.set_cons_succ])
        go_cut [80] (fun v80 wc => ∃ (kq : Nat) (x80_71 : Bool), v80 = .bool x80_71 ∧ Aside0 (wherrylaw21_SenderOver.j2 kq t332 t335 x80_71 t299 t300 t303 t304 t305 t306 t307 t312 t313 t316 t317 t318 t319 t320 t323 t324 t327 t328 t329 t330 t331 = some r) ∧ Aside0 (kq ≤ kj54) ∧ Aside0 (Kd.S k32 32 wc w.heap.size (fun k_ => some k_ ≠ ((.slice Ao63 t300.length co63) : Value).ownBlock ∧ some k_ ≠ ((.slice Ao84 t313.length co84) : Value).ownBlock ∧ some k_ ≠ ((.slice Ao93 t324.length co93) : Value).ownBlock ∧ k_ ≠ gb297) v333 t332) ∧ Aside0 (Kd.R (Kd.int .u8) 5 wc w.heap.size (fun k_ => some k_ ≠ ((.slice Ao84 t313.length co84) : Value).ownBlock ∧ some k_ ≠ ((.slice Ao93 t324.length co93) : Value).ownBlock) (.slice Ao63 t300.length co63) t300) ∧ Aside0 (Kd.R (Kd.int .u8) 5 wc w.heap.size (fun k_ => some k_ ≠ ((.slice Ao63 t300.length co63) : Value).ownBlock ∧ some k_ ≠ ((.slice Ao93 t324.length co93) : Value).ownBlock) (.slice Ao84 t313.length co84) t313) ∧ Aside0 (Kd.R (Kd.int .u8) 5 wc w.heap.size (fun k_ => some k_ ≠ ((.slice Ao63 t300.length co63) : Value).ownBlock ∧ some k_ ≠ ((.slice Ao84 t313.length co84) : Value).ownBlock) (.slice Ao93 t324.length co93) t324) ∧ Aside0 (wc.heap[gb296]? = some (.cells #[.int .i64 a0_0, (.slice A0_1 l0_1.length c0_1), .bool a0_2, .int .i64 a0_3, .int .i64 a0_4, .int .i64 a0_5, .bool false] 24 (0, 0))) ∧ Aside0 (wc.heap[gb297]? = some (.cells #[.int .i64 a1_0, .int .i64 a1_1, .int .i64 a1_2, .int .i64 a1_3, (.slice A1_4 l1_4.length c1_4)] 32 (0, 0))) ∧ Aside0 (wc.heap[gb309]? = some (.cells #[.int .i64 t299, (.slice Ao63 t300.length co63), .bool t303, .int .i64 t304, .int .i64 t305, .int .i64 t306, .bool t307] 24 (0, 0))) ∧ Aside0 (wc.heap[gb322]? = some (.cells #[.int .i64 t312, (.slice Ao84 t313.length co84), .bool t316, .int .i64 t317, .int .i64 t318, .int .i64 t319, .bool t320] 24 (0, 0))) ∧ Aside0 (wc.heap[gb336]? = some (.cells #[.int .i64 t323, (.slice Ao93 t324.length co93), .bool t327, .int .i64 t328, .int .i64 t329, .int .i64 t330, .bool t331] 24 (0, 0))) ∧ Aside0 (Below w.heap.size w wc))
        case first =>
         have H := HC72.out
         clear HC72
         replace H := Option.bind_eq_some_iff.mp H
         obtain ⟨t337, A940, H⟩ := H
         replace H : (if t337 = true then (if t321 = 11 then ((wherryref18_Frame.f kj54 a1_0 a1_1 a1_2 a1_3 l1_4).bind fun t338 => (if t338 = true then (wherrylaw21_SenderOver.j2 kj54 t332 t335 false t299 t300 t303 t304 t305 t306 t307 t312 t313 t316 t317 t318 t319 t320 t323 t324 t327 t328 t329 t330 t331) else (wherrylaw21_SenderOver.j2 kj54 t332 t335 (t321 != 1) t299 t300 t303 t304 t305 t306 t307 t312 t313 t316 t317 t318 t319 t320 t323 t324 t327 t328 t329 t330 t331))) else (wherrylaw21_SenderOver.j2 kj54 t332 t335 true t299 t300 t303 t304 t305 t306 t307 t312 t313 t316 t317 t318 t319 t320 t323 t324 t327 t328 t329 t330 t331)) else ((wherryref18_Frame.f kj54 a1_0 a1_1 a1_2 a1_3 l1_4).bind fun t339 => (if t339 = true then (wherrylaw21_SenderOver.j2 kj54 t332 t335 false t299 t300 t303 t304 t305 t306 t307 t312 t313 t316 t317 t318 t319 t320 t323 t324 t327 t328 t329 t330 t331) else (wherrylaw21_SenderOver.j2 kj54 t332 t335 (t321 != 1) t299 t300 t303 t304 t305 t306 t307 t312 t313 t316 t317 t318 t319 t320 t323 t324 t327 t328 t329 t330 t331)))) = some r := H
         have A94 := Aside0.mk A940
         clear A940
         by_cases c95 : t337 = true
         ·subst c95
          have H1 : (if t321 = 11 then ((wherryref18_Frame.f kj54 a1_0 a1_1 a1_2 a1_3 l1_4).bind fun t338 => (if t338 = true then (wherrylaw21_SenderOver.j2 kj54 t332 t335 false t299 t300 t303 t304 t305 t306 t307 t312 t313 t316 t317 t318 t319 t320 t323 t324 t327 t328 t329 t330 t331) else (wherrylaw21_SenderOver.j2 kj54 t332 t335 (t321 != 1) t299 t300 t303 t304 t305 t306 t307 t312 t313 t316 t317 t318 t319 t320 t323 t324 t327 t328 t329 t330 t331))) else (wherrylaw21_SenderOver.j2 kj54 t332 t335 true t299 t300 t303 t304 t305 t306 t307 t312 t313 t316 t317 t318 t319 t320 t323 t324 t327 t328 t329 t330 t331)) = some r := by rw [if_pos rfl] at H; exact H
          clear H
          have H := H1
          clear H1
          by_cases c96 : t321 = 11
          ·rw [if_pos c96] at H
           have c96b0 : (t321 == 11) = true := beq_iff_eq.mpr c96
           have c96b1 : (t321 != 11) = false := bne_eq_false_iff_eq.mpr c96
           clear c96
           (first | rw [c96b0] | (simp only [i64_w, i32_w]; rw [c96b0]) | skip)
           replace H := Option.bind_eq_some_iff.mp H
           obtain ⟨t338, A970, H⟩ := H
           replace H : (if t338 = true then (wherrylaw21_SenderOver.j2 kj54 t332 t335 false t299 t300 t303 t304 t305 t306 t307 t312 t313 t316 t317 t318 t319 t320 t323 t324 t327 t328 t329 t330 t331) else (wherrylaw21_SenderOver.j2 kj54 t332 t335 (t321 != 1) t299 t300 t303 t304 t305 t306 t307 t312 t313 t316 t317 t318 t319 t320 t323 t324 t327 t328 t329 t330 t331)) = some r := H
           have A97 := Aside0.mk A970
           clear A970
           by_cases c98 : t338 = true
           ·subst c98
            have H1 : (wherrylaw21_SenderOver.j2 kj54 t332 t335 false t299 t300 t303 t304 t305 t306 t307 t312 t313 t316 t317 t318 t319 t320 t323 t324 t327 t328 t329 t330 t331) = some r := by rw [if_pos rfl] at H; exact H
            clear H
            have H := H1
            clear H1
            have H' := Aside0.mk H
            clear H
            have hnb99 := NB297_296.out
            have hnc99 := NB296_297.out
            have hnb100 := NB297_309.out
            have hnc100 := NB309_297.out
            have hnb101 := NB297_322.out
            have hnc101 := NB322_297.out
            have hnb102 := NB297_336.out
            have hnc102 := NB336_297.out
            obtain ⟨hcz103_0, hcz103_1, hcz103_2, hcz103_3, hcz103_4, hfz103_0, hfz103_1, hfz103_2, hfz103_3, hfz103_4⟩ := cells5 BK297.out
            go_wp2_with (first | ((with_reducible refine gate_callee (f := 24) rfl ?_); refine goesL_ (some 67) rfl rfl Try.func24 (by kernel_rfl) rfl #[.agg #[.int .i64 a1_0, .int .i64 a1_1, .int .i64 a1_2, .int .i64 a1_3, .slice A1_4 l1_4.length c1_4]] rfl (by (try simp only [List.map_toArray, List.map_cons, List.map_nil]); first | done | rfl | (simp only [List.length_drop, List.length_take]; rfl) | (go_simp; done) | (go_simp; rfl)) ?_; (with_reducible refine (wherryref18_Frame.calls kj54 a1_0 a1_1 a1_2 a1_3 _ _ l1_4 true _ ?side1 ?side2 A94.out).mono ?_); (case side1 => exact Kd.C_below HR1_4.out (by repeat (first | (with_reducible first | exact HB.out | apply b1 | apply b2 | apply b3 | refine below_set ?_ GE296.out | refine below_set ?_ GE297.out | refine below_set ?_ GE309.out | refine below_set ?_ GE322.out | refine below_set ?_ GE336.out) | exact HB.out))); (case side2 => exact HC1_4.out); rintro e w104 ⟨rfl, hb⟩; refine ⟨_, rfl, ?_⟩; have n0_ := Aside0.mk (Kd.R_below (by (with_reducible repeat (first | apply R1 | apply R2 | apply R3)); exact (Kd.R_mono (Kd.R_far (p := ⟨gb336, 6, none⟩) (Kd.R_far (p := ⟨gb336, 5, none⟩) (Kd.R_far (p := ⟨gb336, 4, none⟩) (Kd.R_far (p := ⟨gb336, 3, none⟩) (Kd.R_far (p := ⟨gb336, 2, none⟩) (Kd.R_far (p := ⟨gb336, 1, none⟩) (Kd.R_far (p := ⟨gb336, 0, none⟩) (Kd.R_types HO_310001.out BK336.out (by decide)) (fun _ hk => hk.2) (.int .i64 t323)) (fun _ hk => hk.2) (.slice Ao93 t324.length co93)) (fun _ hk => hk.2) (.bool t327)) (fun _ hk => hk.2) (.int .i64 t328)) (fun _ hk => hk.2) (.int .i64 t329)) (fun _ hk => hk.2) (.int .i64 t330)) (fun _ hk => hk.2) (.bool t331)) (fun _ h_ => h_.1))) hb); have n1_ := Aside0.mk (Kd.R_below (by (with_reducible repeat (first | apply R1 | apply R2 | apply R3)); exact (Kd.R_mono (Kd.R_far (p := ⟨gb336, 6, none⟩) (Kd.R_far (p := ⟨gb336, 5, none⟩) (Kd.R_far (p := ⟨gb336, 4, none⟩) (Kd.R_far (p := ⟨gb336, 3, none⟩) (Kd.R_far (p := ⟨gb336, 2, none⟩) (Kd.R_far (p := ⟨gb336, 1, none⟩) (Kd.R_far (p := ⟨gb336, 0, none⟩) (Kd.R_types HO315.out BK336.out (by decide)) (fun _ hk => hk.2) (.int .i64 t323)) (fun _ hk => hk.2) (.slice Ao93 t324.length co93)) (fun _ hk => hk.2) (.bool t327)) (fun _ hk => hk.2) (.int .i64 t328)) (fun _ hk => hk.2) (.int .i64 t329)) (fun _ hk => hk.2) (.int .i64 t330)) (fun _ hk => hk.2) (.bool t331)) (fun _ h_ => h_.1))) hb); have n2_ := Aside0.mk (Kd.R_below (by (with_reducible repeat (first | apply R1 | apply R2 | apply R3)); exact (Kd.R_mono (Kd.R_far (p := ⟨gb336, 6, none⟩) (Kd.R_far (p := ⟨gb336, 5, none⟩) (Kd.R_far (p := ⟨gb336, 4, none⟩) (Kd.R_far (p := ⟨gb336, 3, none⟩) (Kd.R_far (p := ⟨gb336, 2, none⟩) (Kd.R_far (p := ⟨gb336, 1, none⟩) (Kd.R_far (p := ⟨gb336, 0, none⟩) (Kd.R_types HO326.out BK336.out (by decide)) (fun _ hk => hk.2) (.int .i64 t323)) (fun _ hk => hk.2) (.slice Ao93 t324.length co93)) (fun _ hk => hk.2) (.bool t327)) (fun _ hk => hk.2) (.int .i64 t328)) (fun _ hk => hk.2) (.int .i64 t329)) (fun _ hk => hk.2) (.int .i64 t330)) (fun _ hk => hk.2) (.bool t331)) (fun _ h_ => h_.1))) hb); have n3_ := Aside0.mk (Kd.S_below (by (with_reducible repeat (first | apply S1 | apply S2 | apply S3)); exact (Kd.S_mono (Kd.S_far (p := ⟨gb336, 6, none⟩) (Kd.S_far (p := ⟨gb336, 5, none⟩) (Kd.S_far (p := ⟨gb336, 4, none⟩) (Kd.S_far (p := ⟨gb336, 3, none⟩) (Kd.S_far (p := ⟨gb336, 2, none⟩) (Kd.S_far (p := ⟨gb336, 1, none⟩) (Kd.S_far (p := ⟨gb336, 0, none⟩) (Kd.S_types HO334.out BK336.out (by decide)) (fun _ hk => hk.2) (.int .i64 t323)) (fun _ hk => hk.2) (.slice Ao93 t324.length co93)) (fun _ hk => hk.2) (.bool t327)) (fun _ hk => hk.2) (.int .i64 t328)) (fun _ hk => hk.2) (.int .i64 t329)) (fun _ hk => hk.2) (.int .i64 t330)) (fun _ hk => hk.2) (.bool t331)) (fun _ h_ => h_.1))) hb); have n4_ := Aside0.mk (blk_below (g := gb296) (o := .cells #[.int .i64 a0_0, .slice A0_1 l0_1.length c0_1, .bool a0_2, .int .i64 a0_3, .int .i64 a0_4, .int .i64 a0_5, .bool false] 24 (0, 0)) (by (with_reducible repeat (first | refine k2 ?_ _ | refine k3 ?_ | refine k1 ?_ _)); refine blk_far ?_ NB296_336.out _; (with_reducible repeat (first | refine k2 ?_ _ | refine k3 ?_ | refine k1 ?_ _)); refine blk_far ?_ NB296_336.out _; (with_reducible repeat (first | refine k2 ?_ _ | refine k3 ?_ | refine k1 ?_ _)); refine blk_far ?_ NB296_336.out _; (with_reducible repeat (first | refine k2 ?_ _ | refine k3 ?_ | refine k1 ?_ _)); refine blk_far ?_ NB296_336.out _; (with_reducible repeat (first | refine k2 ?_ _ | refine k3 ?_ | refine k1 ?_ _)); refine blk_far ?_ NB296_336.out _; (with_reducible repeat (first | refine k2 ?_ _ | refine k3 ?_ | refine k1 ?_ _)); refine blk_far ?_ NB296_336.out _; (with_reducible repeat (first | refine k2 ?_ _ | refine k3 ?_ | refine k1 ?_ _)); refine blk_far ?_ NB296_336.out _; (with_reducible repeat (first | refine k2 ?_ _ | refine k3 ?_ | refine k1 ?_ _)); exact BK296.out) hb); have n5_ := Aside0.mk (blk_below (g := gb297) (o := .cells #[.int .i64 a1_0, .int .i64 a1_1, .int .i64 a1_2, .int .i64 a1_3, .slice A1_4 l1_4.length c1_4] 32 (0, 0)) (by (with_reducible repeat (first | refine k2 ?_ _ | refine k3 ?_ | refine k1 ?_ _)); refine blk_far ?_ NB297_336.out _; (with_reducible repeat (first | refine k2 ?_ _ | refine k3 ?_ | refine k1 ?_ _)); refine blk_far ?_ NB297_336.out _; (with_reducible repeat (first | refine k2 ?_ _ | refine k3 ?_ | refine k1 ?_ _)); refine blk_far ?_ NB297_336.out _; (with_reducible repeat (first | refine k2 ?_ _ | refine k3 ?_ | refine k1 ?_ _)); refine blk_far ?_ NB297_336.out _; (with_reducible repeat (first | refine k2 ?_ _ | refine k3 ?_ | refine k1 ?_ _)); refine blk_far ?_ NB297_336.out _; (with_reducible repeat (first | refine k2 ?_ _ | refine k3 ?_ | refine k1 ?_ _)); refine blk_far ?_ NB297_336.out _; (with_reducible repeat (first | refine k2 ?_ _ | refine k3 ?_ | refine k1 ?_ _)); refine blk_far ?_ NB297_336.out _; (with_reducible repeat (first | refine k2 ?_ _ | refine k3 ?_ | refine k1 ?_ _)); exact BK297.out) hb); have n6_ := Aside0.mk (blk_below (g := gb309) (o := .cells #[.int .i64 t299, .slice Ao63 t300.length co63, .bool t303, .int .i64 t304, .int .i64 t305, .int .i64 t306, .bool t307] 24 (0, 0)) (by (with_reducible repeat (first | refine k2 ?_ _ | refine k3 ?_ | refine k1 ?_ _)); refine blk_far ?_ NB309_336.out _; (with_reducible repeat (first | refine k2 ?_ _ | refine k3 ?_ | refine k1 ?_ _)); refine blk_far ?_ NB309_336.out _; (with_reducible repeat (first | refine k2 ?_ _ | refine k3 ?_ | refine k1 ?_ _)); refine blk_far ?_ NB309_336.out _; (with_reducible repeat (first | refine k2 ?_ _ | refine k3 ?_ | refine k1 ?_ _)); refine blk_far ?_ NB309_336.out _; (with_reducible repeat (first | refine k2 ?_ _ | refine k3 ?_ | refine k1 ?_ _)); refine blk_far ?_ NB309_336.out _; (with_reducible repeat (first | refine k2 ?_ _ | refine k3 ?_ | refine k1 ?_ _)); refine blk_far ?_ NB309_336.out _; (with_reducible repeat (first | refine k2 ?_ _ | refine k3 ?_ | refine k1 ?_ _)); refine blk_far ?_ NB309_336.out _; (with_reducible repeat (first | refine k2 ?_ _ | refine k3 ?_ | refine k1 ?_ _)); exact BK309.out) hb); have n7_ := Aside0.mk (blk_below (g := gb322) (o := .cells #[.int .i64 t312, .slice Ao84 t313.length co84, .bool t316, .int .i64 t317, .int .i64 t318, .int .i64 t319, .bool t320] 24 (0, 0)) (by (with_reducible repeat (first | refine k2 ?_ _ | refine k3 ?_ | refine k1 ?_ _)); refine blk_far ?_ NB322_336.out _; (with_reducible repeat (first | refine k2 ?_ _ | refine k3 ?_ | refine k1 ?_ _)); refine blk_far ?_ NB322_336.out _; (with_reducible repeat (first | refine k2 ?_ _ | refine k3 ?_ | refine k1 ?_ _)); refine blk_far ?_ NB322_336.out _; (with_reducible repeat (first | refine k2 ?_ _ | refine k3 ?_ | refine k1 ?_ _)); refine blk_far ?_ NB322_336.out _; (with_reducible repeat (first | refine k2 ?_ _ | refine k3 ?_ | refine k1 ?_ _)); refine blk_far ?_ NB322_336.out _; (with_reducible repeat (first | refine k2 ?_ _ | refine k3 ?_ | refine k1 ?_ _)); refine blk_far ?_ NB322_336.out _; (with_reducible repeat (first | refine k2 ?_ _ | refine k3 ?_ | refine k1 ?_ _)); refine blk_far ?_ NB322_336.out _; (with_reducible repeat (first | refine k2 ?_ _ | refine k3 ?_ | refine k1 ?_ _)); exact BK322.out) hb); have n8_ := Aside0.mk (blk_below (g := gb336) (o := .cells #[.int .i64 t323, .slice Ao93 t324.length co93, .bool t327, .int .i64 t328, .int .i64 t329, .int .i64 t330, .bool t331] 24 (0, 0)) (by (with_reducible repeat (first | refine k2 ?_ _ | refine k3 ?_ | refine k1 ?_ _)); refine blk_put (cs := #[.int .i64 t323, .slice Ao93 t324.length co93, .bool t327, .int .i64 t328, .int .i64 t329, .int .i64 t330, .bool false]) ?_ 6 _ rfl; (with_reducible repeat (first | refine k2 ?_ _ | refine k3 ?_ | refine k1 ?_ _)); refine blk_put (cs := #[.int .i64 t323, .slice Ao93 t324.length co93, .bool t327, .int .i64 t328, .int .i64 t329, .int .i64 0, .bool false]) ?_ 5 _ rfl; (with_reducible repeat (first | refine k2 ?_ _ | refine k3 ?_ | refine k1 ?_ _)); refine blk_put (cs := #[.int .i64 t323, .slice Ao93 t324.length co93, .bool t327, .int .i64 t328, .int .i64 0, .int .i64 0, .bool false]) ?_ 4 _ rfl; (with_reducible repeat (first | refine k2 ?_ _ | refine k3 ?_ | refine k1 ?_ _)); refine blk_put (cs := #[.int .i64 t323, .slice Ao93 t324.length co93, .bool t327, .int .i64 0, .int .i64 0, .int .i64 0, .bool false]) ?_ 3 _ rfl; (with_reducible repeat (first | refine k2 ?_ _ | refine k3 ?_ | refine k1 ?_ _)); refine blk_put (cs := #[.int .i64 t323, .slice Ao93 t324.length co93, .bool false, .int .i64 0, .int .i64 0, .int .i64 0, .bool false]) ?_ 2 _ rfl; (with_reducible repeat (first | refine k2 ?_ _ | refine k3 ?_ | refine k1 ?_ _)); refine blk_put (cs := #[.int .i64 t323, .slice none 0 0, .bool false, .int .i64 0, .int .i64 0, .int .i64 0, .bool false]) ?_ 1 _ rfl; (with_reducible repeat (first | refine k2 ?_ _ | refine k3 ?_ | refine k1 ?_ _)); refine blk_put (cs := #[.int .i64 0, .slice none 0 0, .bool false, .int .i64 0, .int .i64 0, .int .i64 0, .bool false]) ?_ 0 _ rfl; (with_reducible repeat (first | refine k2 ?_ _ | refine k3 ?_ | refine k1 ?_ _)); exact BK336.out) hb); have n9_ := Aside0.mk (below_step (by repeat (first | (with_reducible first | exact HB.out | apply b1 | apply b2 | apply b3 | refine below_set ?_ GE296.out | refine below_set ?_ GE297.out | refine below_set ?_ GE309.out | refine below_set ?_ GE322.out | refine below_set ?_ GE336.out) | exact HB.out)) hb); clear HO_310001; clear HO315; clear HO326; clear HO334; clear BK296; clear BK297; clear BK309; clear BK322; clear BK336; clear HB; have HO_310001 := n0_; have HO315 := n1_; have HO326 := n2_; have HO334 := n3_; have BK296 := n4_; have BK297 := n5_; have BK309 := n6_; have BK322 := n7_; have BK336 := n8_; have HB := n9_; clear n0_ n1_ n2_ n3_ n4_ n5_ n6_ n7_ n8_ n9_; (try clear hb); (try clear hb2); (try clear hk); (try clear hi); obtain ⟨hcz105_0, hcz105_1, hcz105_2, hcz105_3, hcz105_4, hfz105_0, hfz105_1, hfz105_2, hfz105_3, hfz105_4⟩ := cells5 BK297.out) | (go_at_call 24; (with_reducible refine (wherryref18_Frame.calls kj54 a1_0 a1_1 a1_2 a1_3 _ _ l1_4 true _ ?side1 ?side2 A97.out).mono ?_); (case side1 => first | with_reducible exact (Kd.C_below HR1_4.out HB.out) | exact sC ((Kd.C_below HR1_4.out HB.out))); (case side2 => exact HC1_4.out); rintro e w106 ⟨rfl, hb⟩; have n0_ := Aside0.mk (bR HO_310001.out hb); have n1_ := Aside0.mk (bR HO315.out hb); have n2_ := Aside0.mk (bR HO326.out hb); have n3_ := Aside0.mk (Kd.S_below (by first | with_reducible exact HO334.out | exact sS HO334.out) hb); have n4_ := Aside0.mk (bK BK296.out hb); have n5_ := Aside0.mk (bK BK297.out hb); have n6_ := Aside0.mk (bK BK309.out hb); have n7_ := Aside0.mk (bK BK322.out hb); have n8_ := Aside0.mk (bK BK336.out hb); have n9_ := Aside0.mk (below_step (by repeat (first | (with_reducible first | exact HB.out | apply b1 | apply b2 | apply b3 | refine below_set ?_ GE296.out | refine below_set ?_ GE297.out | refine below_set ?_ GE309.out | refine below_set ?_ GE322.out | refine below_set ?_ GE336.out) | exact HB.out)) hb); clear HO_310001; clear HO315; clear HO326; clear HO334; clear BK296; clear BK297; clear BK309; clear BK322; clear BK336; clear HB; have HO_310001 := n0_; have HO315 := n1_; have HO326 := n2_; have HO334 := n3_; have BK296 := n4_; have BK297 := n5_; have BK309 := n6_; have BK322 := n7_; have BK336 := n8_; have HB := n9_; clear n0_ n1_ n2_ n3_ n4_ n5_ n6_ n7_ n8_ n9_; (try clear hb); (try clear hb2); (try clear hk); (try clear hi)))
            go_meet
            case rel => exact ⟨_, (false), (by first | rfl | (simp; done) | (simp [*]; done)), H', ⟨by have := HJ2.out; have := HJ54.out; first | omega | exact Nat.le_refl _⟩, ⟨by (with_reducible repeat (first | apply S1 | apply S2 | apply S3)); exact Kd.S_mono HO334.out (fun _ hk => ⟨hk.1.1.2, ⟨hk.1.2, ⟨hk.1.1.1, hk.2⟩⟩⟩)⟩, ⟨by (with_reducible repeat (first | apply R1 | apply R2 | apply R3)); exact Kd.R_mono HO_310001.out (fun _ hk => ⟨hk.1.2, hk.2⟩)⟩, ⟨by (with_reducible repeat (first | apply R1 | apply R2 | apply R3)); exact Kd.R_mono HO315.out (fun _ hk => ⟨hk.1.2, hk.2⟩)⟩, ⟨by (with_reducible repeat (first | apply R1 | apply R2 | apply R3)); exact Kd.R_mono HO326.out (fun _ hk => ⟨hk.1.2, hk.2⟩)⟩, ⟨by (with_reducible repeat (first | refine k2 ?_ _ | refine k3 ?_ | refine k1 ?_ _)); exact BK296.out⟩, ⟨by (with_reducible repeat (first | refine k2 ?_ _ | refine k3 ?_ | refine k1 ?_ _)); exact BK297.out⟩, ⟨by (with_reducible repeat (first | refine k2 ?_ _ | refine k3 ?_ | refine k1 ?_ _)); exact BK309.out⟩, ⟨by (with_reducible repeat (first | refine k2 ?_ _ | refine k3 ?_ | refine k1 ?_ _)); exact BK322.out⟩, ⟨by (with_reducible repeat (first | refine k2 ?_ _ | refine k3 ?_ | refine k1 ?_ _)); exact BK336.out⟩, ⟨by repeat (first | (with_reducible first | exact HB.out | apply b1 | apply b2 | apply b3 | refine below_set ?_ GE296.out | refine below_set ?_ GE297.out | refine below_set ?_ GE309.out | refine below_set ?_ GE322.out | refine below_set ?_ GE336.out) | exact HB.out)⟩⟩
           ·replace c98 := Bool.eq_false_iff.mpr c98
            subst c98
            have H1 : (wherrylaw21_SenderOver.j2 kj54 t332 t335 (t321 != 1) t299 t300 t303 t304 t305 t306 t307 t312 t313 t316 t317 t318 t319 t320 t323 t324 t327 t328 t329 t330 t331) = some r := by rw [if_neg (show ¬ (false = true) by decide)] at H; exact H
            clear H
            have H := H1
            clear H1
            have H' := Aside0.mk H
            clear H
            have hnb107 := NB297_296.out
            have hnc107 := NB296_297.out
            have hnb108 := NB297_309.out
            have hnc108 := NB309_297.out
            have hnb109 := NB297_322.out
            have hnc109 := NB322_297.out
            have hnb110 := NB297_336.out
            have hnc110 := NB336_297.out
            obtain ⟨hcz111_0, hcz111_1, hcz111_2, hcz111_3, hcz111_4, hfz111_0, hfz111_1, hfz111_2, hfz111_3, hfz111_4⟩ := cells5 BK297.out
            go_wp2_with (first | ((with_reducible refine gate_callee (f := 24) rfl ?_); refine goesL_ (some 67) rfl rfl Try.func24 (by kernel_rfl) rfl #[.agg #[.int .i64 a1_0, .int .i64 a1_1, .int .i64 a1_2, .int .i64 a1_3, .slice A1_4 l1_4.length c1_4]] rfl (by (try simp only [List.map_toArray, List.map_cons, List.map_nil]); first | done | rfl | (simp only [List.length_drop, List.length_take]; rfl) | (go_simp; done) | (go_simp; rfl)) ?_; (with_reducible refine (wherryref18_Frame.calls kj54 a1_0 a1_1 a1_2 a1_3 _ _ l1_4 true _ ?side1 ?side2 A94.out).mono ?_); (case side1 => exact Kd.C_below HR1_4.out (by repeat (first | (with_reducible first | exact HB.out | apply b1 | apply b2 | apply b3 | refine below_set ?_ GE296.out | refine below_set ?_ GE297.out | refine below_set ?_ GE309.out | refine below_set ?_ GE322.out | refine below_set ?_ GE336.out) | exact HB.out))); (case side2 => exact HC1_4.out); rintro e w112 ⟨rfl, hb⟩; refine ⟨_, rfl, ?_⟩; have n0_ := Aside0.mk (Kd.R_below (by (with_reducible repeat (first | apply R1 | apply R2 | apply R3)); exact (Kd.R_mono (Kd.R_far (p := ⟨gb336, 6, none⟩) (Kd.R_far (p := ⟨gb336, 5, none⟩) (Kd.R_far (p := ⟨gb336, 4, none⟩) (Kd.R_far (p := ⟨gb336, 3, none⟩) (Kd.R_far (p := ⟨gb336, 2, none⟩) (Kd.R_far (p := ⟨gb336, 1, none⟩) (Kd.R_far (p := ⟨gb336, 0, none⟩) (Kd.R_types HO_310001.out BK336.out (by decide)) (fun _ hk => hk.2) (.int .i64 t323)) (fun _ hk => hk.2) (.slice Ao93 t324.length co93)) (fun _ hk => hk.2) (.bool t327)) (fun _ hk => hk.2) (.int .i64 t328)) (fun _ hk => hk.2) (.int .i64 t329)) (fun _ hk => hk.2) (.int .i64 t330)) (fun _ hk => hk.2) (.bool t331)) (fun _ h_ => h_.1))) hb); have n1_ := Aside0.mk (Kd.R_below (by (with_reducible repeat (first | apply R1 | apply R2 | apply R3)); exact (Kd.R_mono (Kd.R_far (p := ⟨gb336, 6, none⟩) (Kd.R_far (p := ⟨gb336, 5, none⟩) (Kd.R_far (p := ⟨gb336, 4, none⟩) (Kd.R_far (p := ⟨gb336, 3, none⟩) (Kd.R_far (p := ⟨gb336, 2, none⟩) (Kd.R_far (p := ⟨gb336, 1, none⟩) (Kd.R_far (p := ⟨gb336, 0, none⟩) (Kd.R_types HO315.out BK336.out (by decide)) (fun _ hk => hk.2) (.int .i64 t323)) (fun _ hk => hk.2) (.slice Ao93 t324.length co93)) (fun _ hk => hk.2) (.bool t327)) (fun _ hk => hk.2) (.int .i64 t328)) (fun _ hk => hk.2) (.int .i64 t329)) (fun _ hk => hk.2) (.int .i64 t330)) (fun _ hk => hk.2) (.bool t331)) (fun _ h_ => h_.1))) hb); have n2_ := Aside0.mk (Kd.R_below (by (with_reducible repeat (first | apply R1 | apply R2 | apply R3)); exact (Kd.R_mono (Kd.R_far (p := ⟨gb336, 6, none⟩) (Kd.R_far (p := ⟨gb336, 5, none⟩) (Kd.R_far (p := ⟨gb336, 4, none⟩) (Kd.R_far (p := ⟨gb336, 3, none⟩) (Kd.R_far (p := ⟨gb336, 2, none⟩) (Kd.R_far (p := ⟨gb336, 1, none⟩) (Kd.R_far (p := ⟨gb336, 0, none⟩) (Kd.R_types HO326.out BK336.out (by decide)) (fun _ hk => hk.2) (.int .i64 t323)) (fun _ hk => hk.2) (.slice Ao93 t324.length co93)) (fun _ hk => hk.2) (.bool t327)) (fun _ hk => hk.2) (.int .i64 t328)) (fun _ hk => hk.2) (.int .i64 t329)) (fun _ hk => hk.2) (.int .i64 t330)) (fun _ hk => hk.2) (.bool t331)) (fun _ h_ => h_.1))) hb); have n3_ := Aside0.mk (Kd.S_below (by (with_reducible repeat (first | apply S1 | apply S2 | apply S3)); exact (Kd.S_mono (Kd.S_far (p := ⟨gb336, 6, none⟩) (Kd.S_far (p := ⟨gb336, 5, none⟩) (Kd.S_far (p := ⟨gb336, 4, none⟩) (Kd.S_far (p := ⟨gb336, 3, none⟩) (Kd.S_far (p := ⟨gb336, 2, none⟩) (Kd.S_far (p := ⟨gb336, 1, none⟩) (Kd.S_far (p := ⟨gb336, 0, none⟩) (Kd.S_types HO334.out BK336.out (by decide)) (fun _ hk => hk.2) (.int .i64 t323)) (fun _ hk => hk.2) (.slice Ao93 t324.length co93)) (fun _ hk => hk.2) (.bool t327)) (fun _ hk => hk.2) (.int .i64 t328)) (fun _ hk => hk.2) (.int .i64 t329)) (fun _ hk => hk.2) (.int .i64 t330)) (fun _ hk => hk.2) (.bool t331)) (fun _ h_ => h_.1))) hb); have n4_ := Aside0.mk (blk_below (g := gb296) (o := .cells #[.int .i64 a0_0, .slice A0_1 l0_1.length c0_1, .bool a0_2, .int .i64 a0_3, .int .i64 a0_4, .int .i64 a0_5, .bool false] 24 (0, 0)) (by (with_reducible repeat (first | refine k2 ?_ _ | refine k3 ?_ | refine k1 ?_ _)); refine blk_far ?_ NB296_336.out _; (with_reducible repeat (first | refine k2 ?_ _ | refine k3 ?_ | refine k1 ?_ _)); refine blk_far ?_ NB296_336.out _; (with_reducible repeat (first | refine k2 ?_ _ | refine k3 ?_ | refine k1 ?_ _)); refine blk_far ?_ NB296_336.out _; (with_reducible repeat (first | refine k2 ?_ _ | refine k3 ?_ | refine k1 ?_ _)); refine blk_far ?_ NB296_336.out _; (with_reducible repeat (first | refine k2 ?_ _ | refine k3 ?_ | refine k1 ?_ _)); refine blk_far ?_ NB296_336.out _; (with_reducible repeat (first | refine k2 ?_ _ | refine k3 ?_ | refine k1 ?_ _)); refine blk_far ?_ NB296_336.out _; (with_reducible repeat (first | refine k2 ?_ _ | refine k3 ?_ | refine k1 ?_ _)); refine blk_far ?_ NB296_336.out _; (with_reducible repeat (first | refine k2 ?_ _ | refine k3 ?_ | refine k1 ?_ _)); exact BK296.out) hb); have n5_ := Aside0.mk (blk_below (g := gb297) (o := .cells #[.int .i64 a1_0, .int .i64 a1_1, .int .i64 a1_2, .int .i64 a1_3, .slice A1_4 l1_4.length c1_4] 32 (0, 0)) (by (with_reducible repeat (first | refine k2 ?_ _ | refine k3 ?_ | refine k1 ?_ _)); refine blk_far ?_ NB297_336.out _; (with_reducible repeat (first | refine k2 ?_ _ | refine k3 ?_ | refine k1 ?_ _)); refine blk_far ?_ NB297_336.out _; (with_reducible repeat (first | refine k2 ?_ _ | refine k3 ?_ | refine k1 ?_ _)); refine blk_far ?_ NB297_336.out _; (with_reducible repeat (first | refine k2 ?_ _ | refine k3 ?_ | refine k1 ?_ _)); refine blk_far ?_ NB297_336.out _; (with_reducible repeat (first | refine k2 ?_ _ | refine k3 ?_ | refine k1 ?_ _)); refine blk_far ?_ NB297_336.out _; (with_reducible repeat (first | refine k2 ?_ _ | refine k3 ?_ | refine k1 ?_ _)); refine blk_far ?_ NB297_336.out _; (with_reducible repeat (first | refine k2 ?_ _ | refine k3 ?_ | refine k1 ?_ _)); refine blk_far ?_ NB297_336.out _; (with_reducible repeat (first | refine k2 ?_ _ | refine k3 ?_ | refine k1 ?_ _)); exact BK297.out) hb); have n6_ := Aside0.mk (blk_below (g := gb309) (o := .cells #[.int .i64 t299, .slice Ao63 t300.length co63, .bool t303, .int .i64 t304, .int .i64 t305, .int .i64 t306, .bool t307] 24 (0, 0)) (by (with_reducible repeat (first | refine k2 ?_ _ | refine k3 ?_ | refine k1 ?_ _)); refine blk_far ?_ NB309_336.out _; (with_reducible repeat (first | refine k2 ?_ _ | refine k3 ?_ | refine k1 ?_ _)); refine blk_far ?_ NB309_336.out _; (with_reducible repeat (first | refine k2 ?_ _ | refine k3 ?_ | refine k1 ?_ _)); refine blk_far ?_ NB309_336.out _; (with_reducible repeat (first | refine k2 ?_ _ | refine k3 ?_ | refine k1 ?_ _)); refine blk_far ?_ NB309_336.out _; (with_reducible repeat (first | refine k2 ?_ _ | refine k3 ?_ | refine k1 ?_ _)); refine blk_far ?_ NB309_336.out _; (with_reducible repeat (first | refine k2 ?_ _ | refine k3 ?_ | refine k1 ?_ _)); refine blk_far ?_ NB309_336.out _; (with_reducible repeat (first | refine k2 ?_ _ | refine k3 ?_ | refine k1 ?_ _)); refine blk_far ?_ NB309_336.out _; (with_reducible repeat (first | refine k2 ?_ _ | refine k3 ?_ | refine k1 ?_ _)); exact BK309.out) hb); have n7_ := Aside0.mk (blk_below (g := gb322) (o := .cells #[.int .i64 t312, .slice Ao84 t313.length co84, .bool t316, .int .i64 t317, .int .i64 t318, .int .i64 t319, .bool t320] 24 (0, 0)) (by (with_reducible repeat (first | refine k2 ?_ _ | refine k3 ?_ | refine k1 ?_ _)); refine blk_far ?_ NB322_336.out _; (with_reducible repeat (first | refine k2 ?_ _ | refine k3 ?_ | refine k1 ?_ _)); refine blk_far ?_ NB322_336.out _; (with_reducible repeat (first | refine k2 ?_ _ | refine k3 ?_ | refine k1 ?_ _)); refine blk_far ?_ NB322_336.out _; (with_reducible repeat (first | refine k2 ?_ _ | refine k3 ?_ | refine k1 ?_ _)); refine blk_far ?_ NB322_336.out _; (with_reducible repeat (first | refine k2 ?_ _ | refine k3 ?_ | refine k1 ?_ _)); refine blk_far ?_ NB322_336.out _; (with_reducible repeat (first | refine k2 ?_ _ | refine k3 ?_ | refine k1 ?_ _)); refine blk_far ?_ NB322_336.out _; (with_reducible repeat (first | refine k2 ?_ _ | refine k3 ?_ | refine k1 ?_ _)); refine blk_far ?_ NB322_336.out _; (with_reducible repeat (first | refine k2 ?_ _ | refine k3 ?_ | refine k1 ?_ _)); exact BK322.out) hb); have n8_ := Aside0.mk (blk_below (g := gb336) (o := .cells #[.int .i64 t323, .slice Ao93 t324.length co93, .bool t327, .int .i64 t328, .int .i64 t329, .int .i64 t330, .bool t331] 24 (0, 0)) (by (with_reducible repeat (first | refine k2 ?_ _ | refine k3 ?_ | refine k1 ?_ _)); refine blk_put (cs := #[.int .i64 t323, .slice Ao93 t324.length co93, .bool t327, .int .i64 t328, .int .i64 t329, .int .i64 t330, .bool false]) ?_ 6 _ rfl; (with_reducible repeat (first | refine k2 ?_ _ | refine k3 ?_ | refine k1 ?_ _)); refine blk_put (cs := #[.int .i64 t323, .slice Ao93 t324.length co93, .bool t327, .int .i64 t328, .int .i64 t329, .int .i64 0, .bool false]) ?_ 5 _ rfl; (with_reducible repeat (first | refine k2 ?_ _ | refine k3 ?_ | refine k1 ?_ _)); refine blk_put (cs := #[.int .i64 t323, .slice Ao93 t324.length co93, .bool t327, .int .i64 t328, .int .i64 0, .int .i64 0, .bool false]) ?_ 4 _ rfl; (with_reducible repeat (first | refine k2 ?_ _ | refine k3 ?_ | refine k1 ?_ _)); refine blk_put (cs := #[.int .i64 t323, .slice Ao93 t324.length co93, .bool t327, .int .i64 0, .int .i64 0, .int .i64 0, .bool false]) ?_ 3 _ rfl; (with_reducible repeat (first | refine k2 ?_ _ | refine k3 ?_ | refine k1 ?_ _)); refine blk_put (cs := #[.int .i64 t323, .slice Ao93 t324.length co93, .bool false, .int .i64 0, .int .i64 0, .int .i64 0, .bool false]) ?_ 2 _ rfl; (with_reducible repeat (first | refine k2 ?_ _ | refine k3 ?_ | refine k1 ?_ _)); refine blk_put (cs := #[.int .i64 t323, .slice none 0 0, .bool false, .int .i64 0, .int .i64 0, .int .i64 0, .bool false]) ?_ 1 _ rfl; (with_reducible repeat (first | refine k2 ?_ _ | refine k3 ?_ | refine k1 ?_ _)); refine blk_put (cs := #[.int .i64 0, .slice none 0 0, .bool false, .int .i64 0, .int .i64 0, .int .i64 0, .bool false]) ?_ 0 _ rfl; (with_reducible repeat (first | refine k2 ?_ _ | refine k3 ?_ | refine k1 ?_ _)); exact BK336.out) hb); have n9_ := Aside0.mk (below_step (by repeat (first | (with_reducible first | exact HB.out | apply b1 | apply b2 | apply b3 | refine below_set ?_ GE296.out | refine below_set ?_ GE297.out | refine below_set ?_ GE309.out | refine below_set ?_ GE322.out | refine below_set ?_ GE336.out) | exact HB.out)) hb); clear HO_310001; clear HO315; clear HO326; clear HO334; clear BK296; clear BK297; clear BK309; clear BK322; clear BK336; clear HB; have HO_310001 := n0_; have HO315 := n1_; have HO326 := n2_; have HO334 := n3_; have BK296 := n4_; have BK297 := n5_; have BK309 := n6_; have BK322 := n7_; have BK336 := n8_; have HB := n9_; clear n0_ n1_ n2_ n3_ n4_ n5_ n6_ n7_ n8_ n9_; (try clear hb); (try clear hb2); (try clear hk); (try clear hi); obtain ⟨hcz113_0, hcz113_1, hcz113_2, hcz113_3, hcz113_4, hfz113_0, hfz113_1, hfz113_2, hfz113_3, hfz113_4⟩ := cells5 BK297.out) | (go_at_call 24; (with_reducible refine (wherryref18_Frame.calls kj54 a1_0 a1_1 a1_2 a1_3 _ _ l1_4 false _ ?side1 ?side2 A97.out).mono ?_); (case side1 => first | with_reducible exact (Kd.C_below HR1_4.out HB.out) | exact sC ((Kd.C_below HR1_4.out HB.out))); (case side2 => exact HC1_4.out); rintro e w114 ⟨rfl, hb⟩; have n0_ := Aside0.mk (bR HO_310001.out hb); have n1_ := Aside0.mk (bR HO315.out hb); have n2_ := Aside0.mk (bR HO326.out hb); have n3_ := Aside0.mk (Kd.S_below (by first | with_reducible exact HO334.out | exact sS HO334.out) hb); have n4_ := Aside0.mk (bK BK296.out hb); have n5_ := Aside0.mk (bK BK297.out hb); have n6_ := Aside0.mk (bK BK309.out hb); have n7_ := Aside0.mk (bK BK322.out hb); have n8_ := Aside0.mk (bK BK336.out hb); have n9_ := Aside0.mk (below_step (by repeat (first | (with_reducible first | exact HB.out | apply b1 | apply b2 | apply b3 | refine below_set ?_ GE296.out | refine below_set ?_ GE297.out | refine below_set ?_ GE309.out | refine below_set ?_ GE322.out | refine below_set ?_ GE336.out) | exact HB.out)) hb); clear HO_310001; clear HO315; clear HO326; clear HO334; clear BK296; clear BK297; clear BK309; clear BK322; clear BK336; clear HB; have HO_310001 := n0_; have HO315 := n1_; have HO326 := n2_; have HO334 := n3_; have BK296 := n4_; have BK297 := n5_; have BK309 := n6_; have BK322 := n7_; have BK336 := n8_; have HB := n9_; clear n0_ n1_ n2_ n3_ n4_ n5_ n6_ n7_ n8_ n9_; (try clear hb); (try clear hb2); (try clear hk); (try clear hi)))
            go_meet
            case rel => exact ⟨_, ((t321 != 1)), (by first | rfl | (simp; done) | (simp [*]; done)), H', ⟨by have := HJ2.out; have := HJ54.out; first | omega | exact Nat.le_refl _⟩, ⟨by (with_reducible repeat (first | apply S1 | apply S2 | apply S3)); exact Kd.S_mono HO334.out (fun _ hk => ⟨hk.1.1.2, ⟨hk.1.2, ⟨hk.1.1.1, hk.2⟩⟩⟩)⟩, ⟨by (with_reducible repeat (first | apply R1 | apply R2 | apply R3)); exact Kd.R_mono HO_310001.out (fun _ hk => ⟨hk.1.2, hk.2⟩)⟩, ⟨by (with_reducible repeat (first | apply R1 | apply R2 | apply R3)); exact Kd.R_mono HO315.out (fun _ hk => ⟨hk.1.2, hk.2⟩)⟩, ⟨by (with_reducible repeat (first | apply R1 | apply R2 | apply R3)); exact Kd.R_mono HO326.out (fun _ hk => ⟨hk.1.2, hk.2⟩)⟩, ⟨by (with_reducible repeat (first | refine k2 ?_ _ | refine k3 ?_ | refine k1 ?_ _)); exact BK296.out⟩, ⟨by (with_reducible repeat (first | refine k2 ?_ _ | refine k3 ?_ | refine k1 ?_ _)); exact BK297.out⟩, ⟨by (with_reducible repeat (first | refine k2 ?_ _ | refine k3 ?_ | refine k1 ?_ _)); exact BK309.out⟩, ⟨by (with_reducible repeat (first | refine k2 ?_ _ | refine k3 ?_ | refine k1 ?_ _)); exact BK322.out⟩, ⟨by (with_reducible repeat (first | refine k2 ?_ _ | refine k3 ?_ | refine k1 ?_ _)); exact BK336.out⟩, ⟨by repeat (first | (with_reducible first | exact HB.out | apply b1 | apply b2 | apply b3 | refine below_set ?_ GE296.out | refine below_set ?_ GE297.out | refine below_set ?_ GE309.out | refine below_set ?_ GE322.out | refine below_set ?_ GE336.out) | exact HB.out)⟩⟩
          ·rw [if_neg c96] at H
           have c96b0 : (t321 == 11) = false := beq_eq_false_iff_ne.mpr c96
           have c96b1 : (t321 != 11) = true := bne_iff_ne.mpr c96
           (first | rw [c96b0] | (simp only [i64_w, i32_w]; rw [c96b0]) | skip)
           have H' := Aside0.mk H
           clear H
           have hnb115 := NB297_296.out
           have hnc115 := NB296_297.out
           have hnb116 := NB297_309.out
           have hnc116 := NB309_297.out
           have hnb117 := NB297_322.out
           have hnc117 := NB322_297.out
           have hnb118 := NB297_336.out
           have hnc118 := NB336_297.out
           obtain ⟨hcz119_0, hcz119_1, hcz119_2, hcz119_3, hcz119_4, hfz119_0, hfz119_1, hfz119_2, hfz119_3, hfz119_4⟩ := cells5 BK297.out
           go_wp2_with (first | ((with_reducible refine gate_callee (f := 24) rfl ?_); refine goesL_ (some 67) rfl rfl Try.func24 (by kernel_rfl) rfl #[.agg #[.int .i64 a1_0, .int .i64 a1_1, .int .i64 a1_2, .int .i64 a1_3, .slice A1_4 l1_4.length c1_4]] rfl (by (try simp only [List.map_toArray, List.map_cons, List.map_nil]); first | done | rfl | (simp only [List.length_drop, List.length_take]; rfl) | (go_simp; done) | (go_simp; rfl)) ?_; (with_reducible refine (wherryref18_Frame.calls kj54 a1_0 a1_1 a1_2 a1_3 _ _ l1_4 true _ ?side1 ?side2 A94.out).mono ?_); (case side1 => exact Kd.C_below HR1_4.out (by repeat (first | (with_reducible first | exact HB.out | apply b1 | apply b2 | apply b3 | refine below_set ?_ GE296.out | refine below_set ?_ GE297.out | refine below_set ?_ GE309.out | refine below_set ?_ GE322.out | refine below_set ?_ GE336.out) | exact HB.out))); (case side2 => exact HC1_4.out); rintro e w120 ⟨rfl, hb⟩; refine ⟨_, rfl, ?_⟩; have n0_ := Aside0.mk (Kd.R_below (by (with_reducible repeat (first | apply R1 | apply R2 | apply R3)); exact (Kd.R_mono (Kd.R_far (p := ⟨gb336, 6, none⟩) (Kd.R_far (p := ⟨gb336, 5, none⟩) (Kd.R_far (p := ⟨gb336, 4, none⟩) (Kd.R_far (p := ⟨gb336, 3, none⟩) (Kd.R_far (p := ⟨gb336, 2, none⟩) (Kd.R_far (p := ⟨gb336, 1, none⟩) (Kd.R_far (p := ⟨gb336, 0, none⟩) (Kd.R_types HO_310001.out BK336.out (by decide)) (fun _ hk => hk.2) (.int .i64 t323)) (fun _ hk => hk.2) (.slice Ao93 t324.length co93)) (fun _ hk => hk.2) (.bool t327)) (fun _ hk => hk.2) (.int .i64 t328)) (fun _ hk => hk.2) (.int .i64 t329)) (fun _ hk => hk.2) (.int .i64 t330)) (fun _ hk => hk.2) (.bool t331)) (fun _ h_ => h_.1))) hb); have n1_ := Aside0.mk (Kd.R_below (by (with_reducible repeat (first | apply R1 | apply R2 | apply R3)); exact (Kd.R_mono (Kd.R_far (p := ⟨gb336, 6, none⟩) (Kd.R_far (p := ⟨gb336, 5, none⟩) (Kd.R_far (p := ⟨gb336, 4, none⟩) (Kd.R_far (p := ⟨gb336, 3, none⟩) (Kd.R_far (p := ⟨gb336, 2, none⟩) (Kd.R_far (p := ⟨gb336, 1, none⟩) (Kd.R_far (p := ⟨gb336, 0, none⟩) (Kd.R_types HO315.out BK336.out (by decide)) (fun _ hk => hk.2) (.int .i64 t323)) (fun _ hk => hk.2) (.slice Ao93 t324.length co93)) (fun _ hk => hk.2) (.bool t327)) (fun _ hk => hk.2) (.int .i64 t328)) (fun _ hk => hk.2) (.int .i64 t329)) (fun _ hk => hk.2) (.int .i64 t330)) (fun _ hk => hk.2) (.bool t331)) (fun _ h_ => h_.1))) hb); have n2_ := Aside0.mk (Kd.R_below (by (with_reducible repeat (first | apply R1 | apply R2 | apply R3)); exact (Kd.R_mono (Kd.R_far (p := ⟨gb336, 6, none⟩) (Kd.R_far (p := ⟨gb336, 5, none⟩) (Kd.R_far (p := ⟨gb336, 4, none⟩) (Kd.R_far (p := ⟨gb336, 3, none⟩) (Kd.R_far (p := ⟨gb336, 2, none⟩) (Kd.R_far (p := ⟨gb336, 1, none⟩) (Kd.R_far (p := ⟨gb336, 0, none⟩) (Kd.R_types HO326.out BK336.out (by decide)) (fun _ hk => hk.2) (.int .i64 t323)) (fun _ hk => hk.2) (.slice Ao93 t324.length co93)) (fun _ hk => hk.2) (.bool t327)) (fun _ hk => hk.2) (.int .i64 t328)) (fun _ hk => hk.2) (.int .i64 t329)) (fun _ hk => hk.2) (.int .i64 t330)) (fun _ hk => hk.2) (.bool t331)) (fun _ h_ => h_.1))) hb); have n3_ := Aside0.mk (Kd.S_below (by (with_reducible repeat (first | apply S1 | apply S2 | apply S3)); exact (Kd.S_mono (Kd.S_far (p := ⟨gb336, 6, none⟩) (Kd.S_far (p := ⟨gb336, 5, none⟩) (Kd.S_far (p := ⟨gb336, 4, none⟩) (Kd.S_far (p := ⟨gb336, 3, none⟩) (Kd.S_far (p := ⟨gb336, 2, none⟩) (Kd.S_far (p := ⟨gb336, 1, none⟩) (Kd.S_far (p := ⟨gb336, 0, none⟩) (Kd.S_types HO334.out BK336.out (by decide)) (fun _ hk => hk.2) (.int .i64 t323)) (fun _ hk => hk.2) (.slice Ao93 t324.length co93)) (fun _ hk => hk.2) (.bool t327)) (fun _ hk => hk.2) (.int .i64 t328)) (fun _ hk => hk.2) (.int .i64 t329)) (fun _ hk => hk.2) (.int .i64 t330)) (fun _ hk => hk.2) (.bool t331)) (fun _ h_ => h_.1))) hb); have n4_ := Aside0.mk (blk_below (g := gb296) (o := .cells #[.int .i64 a0_0, .slice A0_1 l0_1.length c0_1, .bool a0_2, .int .i64 a0_3, .int .i64 a0_4, .int .i64 a0_5, .bool false] 24 (0, 0)) (by (with_reducible repeat (first | refine k2 ?_ _ | refine k3 ?_ | refine k1 ?_ _)); refine blk_far ?_ NB296_336.out _; (with_reducible repeat (first | refine k2 ?_ _ | refine k3 ?_ | refine k1 ?_ _)); refine blk_far ?_ NB296_336.out _; (with_reducible repeat (first | refine k2 ?_ _ | refine k3 ?_ | refine k1 ?_ _)); refine blk_far ?_ NB296_336.out _; (with_reducible repeat (first | refine k2 ?_ _ | refine k3 ?_ | refine k1 ?_ _)); refine blk_far ?_ NB296_336.out _; (with_reducible repeat (first | refine k2 ?_ _ | refine k3 ?_ | refine k1 ?_ _)); refine blk_far ?_ NB296_336.out _; (with_reducible repeat (first | refine k2 ?_ _ | refine k3 ?_ | refine k1 ?_ _)); refine blk_far ?_ NB296_336.out _; (with_reducible repeat (first | refine k2 ?_ _ | refine k3 ?_ | refine k1 ?_ _)); refine blk_far ?_ NB296_336.out _; (with_reducible repeat (first | refine k2 ?_ _ | refine k3 ?_ | refine k1 ?_ _)); exact BK296.out) hb); have n5_ := Aside0.mk (blk_below (g := gb297) (o := .cells #[.int .i64 a1_0, .int .i64 a1_1, .int .i64 a1_2, .int .i64 a1_3, .slice A1_4 l1_4.length c1_4] 32 (0, 0)) (by (with_reducible repeat (first | refine k2 ?_ _ | refine k3 ?_ | refine k1 ?_ _)); refine blk_far ?_ NB297_336.out _; (with_reducible repeat (first | refine k2 ?_ _ | refine k3 ?_ | refine k1 ?_ _)); refine blk_far ?_ NB297_336.out _; (with_reducible repeat (first | refine k2 ?_ _ | refine k3 ?_ | refine k1 ?_ _)); refine blk_far ?_ NB297_336.out _; (with_reducible repeat (first | refine k2 ?_ _ | refine k3 ?_ | refine k1 ?_ _)); refine blk_far ?_ NB297_336.out _; (with_reducible repeat (first | refine k2 ?_ _ | refine k3 ?_ | refine k1 ?_ _)); refine blk_far ?_ NB297_336.out _; (with_reducible repeat (first | refine k2 ?_ _ | refine k3 ?_ | refine k1 ?_ _)); refine blk_far ?_ NB297_336.out _; (with_reducible repeat (first | refine k2 ?_ _ | refine k3 ?_ | refine k1 ?_ _)); refine blk_far ?_ NB297_336.out _; (with_reducible repeat (first | refine k2 ?_ _ | refine k3 ?_ | refine k1 ?_ _)); exact BK297.out) hb); have n6_ := Aside0.mk (blk_below (g := gb309) (o := .cells #[.int .i64 t299, .slice Ao63 t300.length co63, .bool t303, .int .i64 t304, .int .i64 t305, .int .i64 t306, .bool t307] 24 (0, 0)) (by (with_reducible repeat (first | refine k2 ?_ _ | refine k3 ?_ | refine k1 ?_ _)); refine blk_far ?_ NB309_336.out _; (with_reducible repeat (first | refine k2 ?_ _ | refine k3 ?_ | refine k1 ?_ _)); refine blk_far ?_ NB309_336.out _; (with_reducible repeat (first | refine k2 ?_ _ | refine k3 ?_ | refine k1 ?_ _)); refine blk_far ?_ NB309_336.out _; (with_reducible repeat (first | refine k2 ?_ _ | refine k3 ?_ | refine k1 ?_ _)); refine blk_far ?_ NB309_336.out _; (with_reducible repeat (first | refine k2 ?_ _ | refine k3 ?_ | refine k1 ?_ _)); refine blk_far ?_ NB309_336.out _; (with_reducible repeat (first | refine k2 ?_ _ | refine k3 ?_ | refine k1 ?_ _)); refine blk_far ?_ NB309_336.out _; (with_reducible repeat (first | refine k2 ?_ _ | refine k3 ?_ | refine k1 ?_ _)); refine blk_far ?_ NB309_336.out _; (with_reducible repeat (first | refine k2 ?_ _ | refine k3 ?_ | refine k1 ?_ _)); exact BK309.out) hb); have n7_ := Aside0.mk (blk_below (g := gb322) (o := .cells #[.int .i64 t312, .slice Ao84 t313.length co84, .bool t316, .int .i64 t317, .int .i64 t318, .int .i64 t319, .bool t320] 24 (0, 0)) (by (with_reducible repeat (first | refine k2 ?_ _ | refine k3 ?_ | refine k1 ?_ _)); refine blk_far ?_ NB322_336.out _; (with_reducible repeat (first | refine k2 ?_ _ | refine k3 ?_ | refine k1 ?_ _)); refine blk_far ?_ NB322_336.out _; (with_reducible repeat (first | refine k2 ?_ _ | refine k3 ?_ | refine k1 ?_ _)); refine blk_far ?_ NB322_336.out _; (with_reducible repeat (first | refine k2 ?_ _ | refine k3 ?_ | refine k1 ?_ _)); refine blk_far ?_ NB322_336.out _; (with_reducible repeat (first | refine k2 ?_ _ | refine k3 ?_ | refine k1 ?_ _)); refine blk_far ?_ NB322_336.out _; (with_reducible repeat (first | refine k2 ?_ _ | refine k3 ?_ | refine k1 ?_ _)); refine blk_far ?_ NB322_336.out _; (with_reducible repeat (first | refine k2 ?_ _ | refine k3 ?_ | refine k1 ?_ _)); refine blk_far ?_ NB322_336.out _; (with_reducible repeat (first | refine k2 ?_ _ | refine k3 ?_ | refine k1 ?_ _)); exact BK322.out) hb); have n8_ := Aside0.mk (blk_below (g := gb336) (o := .cells #[.int .i64 t323, .slice Ao93 t324.length co93, .bool t327, .int .i64 t328, .int .i64 t329, .int .i64 t330, .bool t331] 24 (0, 0)) (by (with_reducible repeat (first | refine k2 ?_ _ | refine k3 ?_ | refine k1 ?_ _)); refine blk_put (cs := #[.int .i64 t323, .slice Ao93 t324.length co93, .bool t327, .int .i64 t328, .int .i64 t329, .int .i64 t330, .bool false]) ?_ 6 _ rfl; (with_reducible repeat (first | refine k2 ?_ _ | refine k3 ?_ | refine k1 ?_ _)); refine blk_put (cs := #[.int .i64 t323, .slice Ao93 t324.length co93, .bool t327, .int .i64 t328, .int .i64 t329, .int .i64 0, .bool false]) ?_ 5 _ rfl; (with_reducible repeat (first | refine k2 ?_ _ | refine k3 ?_ | refine k1 ?_ _)); refine blk_put (cs := #[.int .i64 t323, .slice Ao93 t324.length co93, .bool t327, .int .i64 t328, .int .i64 0, .int .i64 0, .bool false]) ?_ 4 _ rfl; (with_reducible repeat (first | refine k2 ?_ _ | refine k3 ?_ | refine k1 ?_ _)); refine blk_put (cs := #[.int .i64 t323, .slice Ao93 t324.length co93, .bool t327, .int .i64 0, .int .i64 0, .int .i64 0, .bool false]) ?_ 3 _ rfl; (with_reducible repeat (first | refine k2 ?_ _ | refine k3 ?_ | refine k1 ?_ _)); refine blk_put (cs := #[.int .i64 t323, .slice Ao93 t324.length co93, .bool false, .int .i64 0, .int .i64 0, .int .i64 0, .bool false]) ?_ 2 _ rfl; (with_reducible repeat (first | refine k2 ?_ _ | refine k3 ?_ | refine k1 ?_ _)); refine blk_put (cs := #[.int .i64 t323, .slice none 0 0, .bool false, .int .i64 0, .int .i64 0, .int .i64 0, .bool false]) ?_ 1 _ rfl; (with_reducible repeat (first | refine k2 ?_ _ | refine k3 ?_ | refine k1 ?_ _)); refine blk_put (cs := #[.int .i64 0, .slice none 0 0, .bool false, .int .i64 0, .int .i64 0, .int .i64 0, .bool false]) ?_ 0 _ rfl; (with_reducible repeat (first | refine k2 ?_ _ | refine k3 ?_ | refine k1 ?_ _)); exact BK336.out) hb); have n9_ := Aside0.mk (below_step (by repeat (first | (with_reducible first | exact HB.out | apply b1 | apply b2 | apply b3 | refine below_set ?_ GE296.out | refine below_set ?_ GE297.out | refine below_set ?_ GE309.out | refine below_set ?_ GE322.out | refine below_set ?_ GE336.out) | exact HB.out)) hb); clear HO_310001; clear HO315; clear HO326; clear HO334; clear BK296; clear BK297; clear BK309; clear BK322; clear BK336; clear HB; have HO_310001 := n0_; have HO315 := n1_; have HO326 := n2_; have HO334 := n3_; have BK296 := n4_; have BK297 := n5_; have BK309 := n6_; have BK322 := n7_; have BK336 := n8_; have HB := n9_; clear n0_ n1_ n2_ n3_ n4_ n5_ n6_ n7_ n8_ n9_; (try clear hb); (try clear hb2); (try clear hk); (try clear hi)))
           go_meet
           case rel => exact ⟨_, (true), (by first | rfl | (simp; done) | (simp [*]; done)), H', ⟨by have := HJ2.out; have := HJ54.out; first | omega | exact Nat.le_refl _⟩, ⟨by (with_reducible repeat (first | apply S1 | apply S2 | apply S3)); exact Kd.S_mono HO334.out (fun _ hk => ⟨hk.1.1.2, ⟨hk.1.2, ⟨hk.1.1.1, hk.2⟩⟩⟩)⟩, ⟨by (with_reducible repeat (first | apply R1 | apply R2 | apply R3)); exact Kd.R_mono HO_310001.out (fun _ hk => ⟨hk.1.2, hk.2⟩)⟩, ⟨by (with_reducible repeat (first | apply R1 | apply R2 | apply R3)); exact Kd.R_mono HO315.out (fun _ hk => ⟨hk.1.2, hk.2⟩)⟩, ⟨by (with_reducible repeat (first | apply R1 | apply R2 | apply R3)); exact Kd.R_mono HO326.out (fun _ hk => ⟨hk.1.2, hk.2⟩)⟩, ⟨by (with_reducible repeat (first | refine k2 ?_ _ | refine k3 ?_ | refine k1 ?_ _)); exact BK296.out⟩, ⟨by (with_reducible repeat (first | refine k2 ?_ _ | refine k3 ?_ | refine k1 ?_ _)); exact BK297.out⟩, ⟨by (with_reducible repeat (first | refine k2 ?_ _ | refine k3 ?_ | refine k1 ?_ _)); exact BK309.out⟩, ⟨by (with_reducible repeat (first | refine k2 ?_ _ | refine k3 ?_ | refine k1 ?_ _)); exact BK322.out⟩, ⟨by (with_reducible repeat (first | refine k2 ?_ _ | refine k3 ?_ | refine k1 ?_ _)); exact BK336.out⟩, ⟨by repeat (first | (with_reducible first | exact HB.out | apply b1 | apply b2 | apply b3 | refine below_set ?_ GE296.out | refine below_set ?_ GE297.out | refine below_set ?_ GE309.out | refine below_set ?_ GE322.out | refine below_set ?_ GE336.out) | exact HB.out)⟩⟩
         ·replace c95 := Bool.eq_false_iff.mpr c95
          subst c95
          have H1 : ((wherryref18_Frame.f kj54 a1_0 a1_1 a1_2 a1_3 l1_4).bind fun t339 => (if t339 = true then (wherrylaw21_SenderOver.j2 kj54 t332 t335 false t299 t300 t303 t304 t305 t306 t307 t312 t313 t316 t317 t318 t319 t320 t323 t324 t327 t328 t329 t330 t331) else (wherrylaw21_SenderOver.j2 kj54 t332 t335 (t321 != 1) t299 t300 t303 t304 t305 t306 t307 t312 t313 t316 t317 t318 t319 t320 t323 t324 t327 t328 t329 t330 t331))) = some r := by rw [if_neg (show ¬ (false = true) by decide)] at H; exact H
          clear H
          have H := H1
          clear H1
          replace H := Option.bind_eq_some_iff.mp H
          obtain ⟨t339, A1210, H⟩ := H
          replace H : (if t339 = true then (wherrylaw21_SenderOver.j2 kj54 t332 t335 false t299 t300 t303 t304 t305 t306 t307 t312 t313 t316 t317 t318 t319 t320 t323 t324 t327 t328 t329 t330 t331) else (wherrylaw21_SenderOver.j2 kj54 t332 t335 (t321 != 1) t299 t300 t303 t304 t305 t306 t307 t312 t313 t316 t317 t318 t319 t320 t323 t324 t327 t328 t329 t330 t331)) = some r := H
          have A121 := Aside0.mk A1210
          clear A1210
          by_cases c122 : t339 = true
          ·subst c122
           have H1 : (wherrylaw21_SenderOver.j2 kj54 t332 t335 false t299 t300 t303 t304 t305 t306 t307 t312 t313 t316 t317 t318 t319 t320 t323 t324 t327 t328 t329 t330 t331) = some r := by rw [if_pos rfl] at H; exact H
           clear H
           have H := H1
           clear H1
           have H' := Aside0.mk H
           clear H
           have hnb123 := NB297_296.out
           have hnc123 := NB296_297.out
           have hnb124 := NB297_309.out
           have hnc124 := NB309_297.out
           have hnb125 := NB297_322.out
           have hnc125 := NB322_297.out
           have hnb126 := NB297_336.out
           have hnc126 := NB336_297.out
           obtain ⟨hcz127_0, hcz127_1, hcz127_2, hcz127_3, hcz127_4, hfz127_0, hfz127_1, hfz127_2, hfz127_3, hfz127_4⟩ := cells5 BK297.out
           go_wp2_with (first | ((with_reducible refine gate_callee (f := 24) rfl ?_); refine goesL_ (some 67) rfl rfl Try.func24 (by kernel_rfl) rfl #[.agg #[.int .i64 a1_0, .int .i64 a1_1, .int .i64 a1_2, .int .i64 a1_3, .slice A1_4 l1_4.length c1_4]] rfl (by (try simp only [List.map_toArray, List.map_cons, List.map_nil]); first | done | rfl | (simp only [List.length_drop, List.length_take]; rfl) | (go_simp; done) | (go_simp; rfl)) ?_; (with_reducible refine (wherryref18_Frame.calls kj54 a1_0 a1_1 a1_2 a1_3 _ _ l1_4 false _ ?side1 ?side2 A94.out).mono ?_); (case side1 => exact Kd.C_below HR1_4.out (by repeat (first | (with_reducible first | exact HB.out | apply b1 | apply b2 | apply b3 | refine below_set ?_ GE296.out | refine below_set ?_ GE297.out | refine below_set ?_ GE309.out | refine below_set ?_ GE322.out | refine below_set ?_ GE336.out) | exact HB.out))); (case side2 => exact HC1_4.out); rintro e w128 ⟨rfl, hb⟩; refine ⟨_, rfl, ?_⟩; have n0_ := Aside0.mk (Kd.R_below (by (with_reducible repeat (first | apply R1 | apply R2 | apply R3)); exact (Kd.R_mono (Kd.R_far (p := ⟨gb336, 6, none⟩) (Kd.R_far (p := ⟨gb336, 5, none⟩) (Kd.R_far (p := ⟨gb336, 4, none⟩) (Kd.R_far (p := ⟨gb336, 3, none⟩) (Kd.R_far (p := ⟨gb336, 2, none⟩) (Kd.R_far (p := ⟨gb336, 1, none⟩) (Kd.R_far (p := ⟨gb336, 0, none⟩) (Kd.R_types HO_310001.out BK336.out (by decide)) (fun _ hk => hk.2) (.int .i64 t323)) (fun _ hk => hk.2) (.slice Ao93 t324.length co93)) (fun _ hk => hk.2) (.bool t327)) (fun _ hk => hk.2) (.int .i64 t328)) (fun _ hk => hk.2) (.int .i64 t329)) (fun _ hk => hk.2) (.int .i64 t330)) (fun _ hk => hk.2) (.bool t331)) (fun _ h_ => h_.1))) hb); have n1_ := Aside0.mk (Kd.R_below (by (with_reducible repeat (first | apply R1 | apply R2 | apply R3)); exact (Kd.R_mono (Kd.R_far (p := ⟨gb336, 6, none⟩) (Kd.R_far (p := ⟨gb336, 5, none⟩) (Kd.R_far (p := ⟨gb336, 4, none⟩) (Kd.R_far (p := ⟨gb336, 3, none⟩) (Kd.R_far (p := ⟨gb336, 2, none⟩) (Kd.R_far (p := ⟨gb336, 1, none⟩) (Kd.R_far (p := ⟨gb336, 0, none⟩) (Kd.R_types HO315.out BK336.out (by decide)) (fun _ hk => hk.2) (.int .i64 t323)) (fun _ hk => hk.2) (.slice Ao93 t324.length co93)) (fun _ hk => hk.2) (.bool t327)) (fun _ hk => hk.2) (.int .i64 t328)) (fun _ hk => hk.2) (.int .i64 t329)) (fun _ hk => hk.2) (.int .i64 t330)) (fun _ hk => hk.2) (.bool t331)) (fun _ h_ => h_.1))) hb); have n2_ := Aside0.mk (Kd.R_below (by (with_reducible repeat (first | apply R1 | apply R2 | apply R3)); exact (Kd.R_mono (Kd.R_far (p := ⟨gb336, 6, none⟩) (Kd.R_far (p := ⟨gb336, 5, none⟩) (Kd.R_far (p := ⟨gb336, 4, none⟩) (Kd.R_far (p := ⟨gb336, 3, none⟩) (Kd.R_far (p := ⟨gb336, 2, none⟩) (Kd.R_far (p := ⟨gb336, 1, none⟩) (Kd.R_far (p := ⟨gb336, 0, none⟩) (Kd.R_types HO326.out BK336.out (by decide)) (fun _ hk => hk.2) (.int .i64 t323)) (fun _ hk => hk.2) (.slice Ao93 t324.length co93)) (fun _ hk => hk.2) (.bool t327)) (fun _ hk => hk.2) (.int .i64 t328)) (fun _ hk => hk.2) (.int .i64 t329)) (fun _ hk => hk.2) (.int .i64 t330)) (fun _ hk => hk.2) (.bool t331)) (fun _ h_ => h_.1))) hb); have n3_ := Aside0.mk (Kd.S_below (by (with_reducible repeat (first | apply S1 | apply S2 | apply S3)); exact (Kd.S_mono (Kd.S_far (p := ⟨gb336, 6, none⟩) (Kd.S_far (p := ⟨gb336, 5, none⟩) (Kd.S_far (p := ⟨gb336, 4, none⟩) (Kd.S_far (p := ⟨gb336, 3, none⟩) (Kd.S_far (p := ⟨gb336, 2, none⟩) (Kd.S_far (p := ⟨gb336, 1, none⟩) (Kd.S_far (p := ⟨gb336, 0, none⟩) (Kd.S_types HO334.out BK336.out (by decide)) (fun _ hk => hk.2) (.int .i64 t323)) (fun _ hk => hk.2) (.slice Ao93 t324.length co93)) (fun _ hk => hk.2) (.bool t327)) (fun _ hk => hk.2) (.int .i64 t328)) (fun _ hk => hk.2) (.int .i64 t329)) (fun _ hk => hk.2) (.int .i64 t330)) (fun _ hk => hk.2) (.bool t331)) (fun _ h_ => h_.1))) hb); have n4_ := Aside0.mk (blk_below (g := gb296) (o := .cells #[.int .i64 a0_0, .slice A0_1 l0_1.length c0_1, .bool a0_2, .int .i64 a0_3, .int .i64 a0_4, .int .i64 a0_5, .bool false] 24 (0, 0)) (by (with_reducible repeat (first | refine k2 ?_ _ | refine k3 ?_ | refine k1 ?_ _)); refine blk_far ?_ NB296_336.out _; (with_reducible repeat (first | refine k2 ?_ _ | refine k3 ?_ | refine k1 ?_ _)); refine blk_far ?_ NB296_336.out _; (with_reducible repeat (first | refine k2 ?_ _ | refine k3 ?_ | refine k1 ?_ _)); refine blk_far ?_ NB296_336.out _; (with_reducible repeat (first | refine k2 ?_ _ | refine k3 ?_ | refine k1 ?_ _)); refine blk_far ?_ NB296_336.out _; (with_reducible repeat (first | refine k2 ?_ _ | refine k3 ?_ | refine k1 ?_ _)); refine blk_far ?_ NB296_336.out _; (with_reducible repeat (first | refine k2 ?_ _ | refine k3 ?_ | refine k1 ?_ _)); refine blk_far ?_ NB296_336.out _; (with_reducible repeat (first | refine k2 ?_ _ | refine k3 ?_ | refine k1 ?_ _)); refine blk_far ?_ NB296_336.out _; (with_reducible repeat (first | refine k2 ?_ _ | refine k3 ?_ | refine k1 ?_ _)); exact BK296.out) hb); have n5_ := Aside0.mk (blk_below (g := gb297) (o := .cells #[.int .i64 a1_0, .int .i64 a1_1, .int .i64 a1_2, .int .i64 a1_3, .slice A1_4 l1_4.length c1_4] 32 (0, 0)) (by (with_reducible repeat (first | refine k2 ?_ _ | refine k3 ?_ | refine k1 ?_ _)); refine blk_far ?_ NB297_336.out _; (with_reducible repeat (first | refine k2 ?_ _ | refine k3 ?_ | refine k1 ?_ _)); refine blk_far ?_ NB297_336.out _; (with_reducible repeat (first | refine k2 ?_ _ | refine k3 ?_ | refine k1 ?_ _)); refine blk_far ?_ NB297_336.out _; (with_reducible repeat (first | refine k2 ?_ _ | refine k3 ?_ | refine k1 ?_ _)); refine blk_far ?_ NB297_336.out _; (with_reducible repeat (first | refine k2 ?_ _ | refine k3 ?_ | refine k1 ?_ _)); refine blk_far ?_ NB297_336.out _; (with_reducible repeat (first | refine k2 ?_ _ | refine k3 ?_ | refine k1 ?_ _)); refine blk_far ?_ NB297_336.out _; (with_reducible repeat (first | refine k2 ?_ _ | refine k3 ?_ | refine k1 ?_ _)); refine blk_far ?_ NB297_336.out _; (with_reducible repeat (first | refine k2 ?_ _ | refine k3 ?_ | refine k1 ?_ _)); exact BK297.out) hb); have n6_ := Aside0.mk (blk_below (g := gb309) (o := .cells #[.int .i64 t299, .slice Ao63 t300.length co63, .bool t303, .int .i64 t304, .int .i64 t305, .int .i64 t306, .bool t307] 24 (0, 0)) (by (with_reducible repeat (first | refine k2 ?_ _ | refine k3 ?_ | refine k1 ?_ _)); refine blk_far ?_ NB309_336.out _; (with_reducible repeat (first | refine k2 ?_ _ | refine k3 ?_ | refine k1 ?_ _)); refine blk_far ?_ NB309_336.out _; (with_reducible repeat (first | refine k2 ?_ _ | refine k3 ?_ | refine k1 ?_ _)); refine blk_far ?_ NB309_336.out _; (with_reducible repeat (first | refine k2 ?_ _ | refine k3 ?_ | refine k1 ?_ _)); refine blk_far ?_ NB309_336.out _; (with_reducible repeat (first | refine k2 ?_ _ | refine k3 ?_ | refine k1 ?_ _)); refine blk_far ?_ NB309_336.out _; (with_reducible repeat (first | refine k2 ?_ _ | refine k3 ?_ | refine k1 ?_ _)); refine blk_far ?_ NB309_336.out _; (with_reducible repeat (first | refine k2 ?_ _ | refine k3 ?_ | refine k1 ?_ _)); refine blk_far ?_ NB309_336.out _; (with_reducible repeat (first | refine k2 ?_ _ | refine k3 ?_ | refine k1 ?_ _)); exact BK309.out) hb); have n7_ := Aside0.mk (blk_below (g := gb322) (o := .cells #[.int .i64 t312, .slice Ao84 t313.length co84, .bool t316, .int .i64 t317, .int .i64 t318, .int .i64 t319, .bool t320] 24 (0, 0)) (by (with_reducible repeat (first | refine k2 ?_ _ | refine k3 ?_ | refine k1 ?_ _)); refine blk_far ?_ NB322_336.out _; (with_reducible repeat (first | refine k2 ?_ _ | refine k3 ?_ | refine k1 ?_ _)); refine blk_far ?_ NB322_336.out _; (with_reducible repeat (first | refine k2 ?_ _ | refine k3 ?_ | refine k1 ?_ _)); refine blk_far ?_ NB322_336.out _; (with_reducible repeat (first | refine k2 ?_ _ | refine k3 ?_ | refine k1 ?_ _)); refine blk_far ?_ NB322_336.out _; (with_reducible repeat (first | refine k2 ?_ _ | refine k3 ?_ | refine k1 ?_ _)); refine blk_far ?_ NB322_336.out _; (with_reducible repeat (first | refine k2 ?_ _ | refine k3 ?_ | refine k1 ?_ _)); refine blk_far ?_ NB322_336.out _; (with_reducible repeat (first | refine k2 ?_ _ | refine k3 ?_ | refine k1 ?_ _)); refine blk_far ?_ NB322_336.out _; (with_reducible repeat (first | refine k2 ?_ _ | refine k3 ?_ | refine k1 ?_ _)); exact BK322.out) hb); have n8_ := Aside0.mk (blk_below (g := gb336) (o := .cells #[.int .i64 t323, .slice Ao93 t324.length co93, .bool t327, .int .i64 t328, .int .i64 t329, .int .i64 t330, .bool t331] 24 (0, 0)) (by (with_reducible repeat (first | refine k2 ?_ _ | refine k3 ?_ | refine k1 ?_ _)); refine blk_put (cs := #[.int .i64 t323, .slice Ao93 t324.length co93, .bool t327, .int .i64 t328, .int .i64 t329, .int .i64 t330, .bool false]) ?_ 6 _ rfl; (with_reducible repeat (first | refine k2 ?_ _ | refine k3 ?_ | refine k1 ?_ _)); refine blk_put (cs := #[.int .i64 t323, .slice Ao93 t324.length co93, .bool t327, .int .i64 t328, .int .i64 t329, .int .i64 0, .bool false]) ?_ 5 _ rfl; (with_reducible repeat (first | refine k2 ?_ _ | refine k3 ?_ | refine k1 ?_ _)); refine blk_put (cs := #[.int .i64 t323, .slice Ao93 t324.length co93, .bool t327, .int .i64 t328, .int .i64 0, .int .i64 0, .bool false]) ?_ 4 _ rfl; (with_reducible repeat (first | refine k2 ?_ _ | refine k3 ?_ | refine k1 ?_ _)); refine blk_put (cs := #[.int .i64 t323, .slice Ao93 t324.length co93, .bool t327, .int .i64 0, .int .i64 0, .int .i64 0, .bool false]) ?_ 3 _ rfl; (with_reducible repeat (first | refine k2 ?_ _ | refine k3 ?_ | refine k1 ?_ _)); refine blk_put (cs := #[.int .i64 t323, .slice Ao93 t324.length co93, .bool false, .int .i64 0, .int .i64 0, .int .i64 0, .bool false]) ?_ 2 _ rfl; (with_reducible repeat (first | refine k2 ?_ _ | refine k3 ?_ | refine k1 ?_ _)); refine blk_put (cs := #[.int .i64 t323, .slice none 0 0, .bool false, .int .i64 0, .int .i64 0, .int .i64 0, .bool false]) ?_ 1 _ rfl; (with_reducible repeat (first | refine k2 ?_ _ | refine k3 ?_ | refine k1 ?_ _)); refine blk_put (cs := #[.int .i64 0, .slice none 0 0, .bool false, .int .i64 0, .int .i64 0, .int .i64 0, .bool false]) ?_ 0 _ rfl; (with_reducible repeat (first | refine k2 ?_ _ | refine k3 ?_ | refine k1 ?_ _)); exact BK336.out) hb); have n9_ := Aside0.mk (below_step (by repeat (first | (with_reducible first | exact HB.out | apply b1 | apply b2 | apply b3 | refine below_set ?_ GE296.out | refine below_set ?_ GE297.out | refine below_set ?_ GE309.out | refine below_set ?_ GE322.out | refine below_set ?_ GE336.out) | exact HB.out)) hb); clear HO_310001; clear HO315; clear HO326; clear HO334; clear BK296; clear BK297; clear BK309; clear BK322; clear BK336; clear HB; have HO_310001 := n0_; have HO315 := n1_; have HO326 := n2_; have HO334 := n3_; have BK296 := n4_; have BK297 := n5_; have BK309 := n6_; have BK322 := n7_; have BK336 := n8_; have HB := n9_; clear n0_ n1_ n2_ n3_ n4_ n5_ n6_ n7_ n8_ n9_; (try clear hb); (try clear hb2); (try clear hk); (try clear hi); obtain ⟨hcz129_0, hcz129_1, hcz129_2, hcz129_3, hcz129_4, hfz129_0, hfz129_1, hfz129_2, hfz129_3, hfz129_4⟩ := cells5 BK297.out) | (go_at_call 24; (with_reducible refine (wherryref18_Frame.calls kj54 a1_0 a1_1 a1_2 a1_3 _ _ l1_4 true _ ?side1 ?side2 A121.out).mono ?_); (case side1 => first | with_reducible exact (Kd.C_below HR1_4.out HB.out) | exact sC ((Kd.C_below HR1_4.out HB.out))); (case side2 => exact HC1_4.out); rintro e w130 ⟨rfl, hb⟩; have n0_ := Aside0.mk (bR HO_310001.out hb); have n1_ := Aside0.mk (bR HO315.out hb); have n2_ := Aside0.mk (bR HO326.out hb); have n3_ := Aside0.mk (Kd.S_below (by first | with_reducible exact HO334.out | exact sS HO334.out) hb); have n4_ := Aside0.mk (bK BK296.out hb); have n5_ := Aside0.mk (bK BK297.out hb); have n6_ := Aside0.mk (bK BK309.out hb); have n7_ := Aside0.mk (bK BK322.out hb); have n8_ := Aside0.mk (bK BK336.out hb); have n9_ := Aside0.mk (below_step (by repeat (first | (with_reducible first | exact HB.out | apply b1 | apply b2 | apply b3 | refine below_set ?_ GE296.out | refine below_set ?_ GE297.out | refine below_set ?_ GE309.out | refine below_set ?_ GE322.out | refine below_set ?_ GE336.out) | exact HB.out)) hb); clear HO_310001; clear HO315; clear HO326; clear HO334; clear BK296; clear BK297; clear BK309; clear BK322; clear BK336; clear HB; have HO_310001 := n0_; have HO315 := n1_; have HO326 := n2_; have HO334 := n3_; have BK296 := n4_; have BK297 := n5_; have BK309 := n6_; have BK322 := n7_; have BK336 := n8_; have HB := n9_; clear n0_ n1_ n2_ n3_ n4_ n5_ n6_ n7_ n8_ n9_; (try clear hb); (try clear hb2); (try clear hk); (try clear hi)))
           go_meet
           case rel => exact ⟨_, (false), (by first | rfl | (simp; done) | (simp [*]; done)), H', ⟨by have := HJ2.out; have := HJ54.out; first | omega | exact Nat.le_refl _⟩, ⟨by (with_reducible repeat (first | apply S1 | apply S2 | apply S3)); exact Kd.S_mono HO334.out (fun _ hk => ⟨hk.1.1.2, ⟨hk.1.2, ⟨hk.1.1.1, hk.2⟩⟩⟩)⟩, ⟨by (with_reducible repeat (first | apply R1 | apply R2 | apply R3)); exact Kd.R_mono HO_310001.out (fun _ hk => ⟨hk.1.2, hk.2⟩)⟩, ⟨by (with_reducible repeat (first | apply R1 | apply R2 | apply R3)); exact Kd.R_mono HO315.out (fun _ hk => ⟨hk.1.2, hk.2⟩)⟩, ⟨by (with_reducible repeat (first | apply R1 | apply R2 | apply R3)); exact Kd.R_mono HO326.out (fun _ hk => ⟨hk.1.2, hk.2⟩)⟩, ⟨by (with_reducible repeat (first | refine k2 ?_ _ | refine k3 ?_ | refine k1 ?_ _)); exact BK296.out⟩, ⟨by (with_reducible repeat (first | refine k2 ?_ _ | refine k3 ?_ | refine k1 ?_ _)); exact BK297.out⟩, ⟨by (with_reducible repeat (first | refine k2 ?_ _ | refine k3 ?_ | refine k1 ?_ _)); exact BK309.out⟩, ⟨by (with_reducible repeat (first | refine k2 ?_ _ | refine k3 ?_ | refine k1 ?_ _)); exact BK322.out⟩, ⟨by (with_reducible repeat (first | refine k2 ?_ _ | refine k3 ?_ | refine k1 ?_ _)); exact BK336.out⟩, ⟨by repeat (first | (with_reducible first | exact HB.out | apply b1 | apply b2 | apply b3 | refine below_set ?_ GE296.out | refine below_set ?_ GE297.out | refine below_set ?_ GE309.out | refine below_set ?_ GE322.out | refine below_set ?_ GE336.out) | exact HB.out)⟩⟩
          ·replace c122 := Bool.eq_false_iff.mpr c122
           subst c122
           have H1 : (wherrylaw21_SenderOver.j2 kj54 t332 t335 (t321 != 1) t299 t300 t303 t304 t305 t306 t307 t312 t313 t316 t317 t318 t319 t320 t323 t324 t327 t328 t329 t330 t331) = some r := by rw [if_neg (show ¬ (false = true) by decide)] at H; exact H
           clear H
           have H := H1
           clear H1
           have H' := Aside0.mk H
           clear H
           have hnb131 := NB297_296.out
           have hnc131 := NB296_297.out
           have hnb132 := NB297_309.out
           have hnc132 := NB309_297.out
           have hnb133 := NB297_322.out
           have hnc133 := NB322_297.out
           have hnb134 := NB297_336.out
           have hnc134 := NB336_297.out
           obtain ⟨hcz135_0, hcz135_1, hcz135_2, hcz135_3, hcz135_4, hfz135_0, hfz135_1, hfz135_2, hfz135_3, hfz135_4⟩ := cells5 BK297.out
           go_wp2_with (first | ((with_reducible refine gate_callee (f := 24) rfl ?_); refine goesL_ (some 67) rfl rfl Try.func24 (by kernel_rfl) rfl #[.agg #[.int .i64 a1_0, .int .i64 a1_1, .int .i64 a1_2, .int .i64 a1_3, .slice A1_4 l1_4.length c1_4]] rfl (by (try simp only [List.map_toArray, List.map_cons, List.map_nil]); first | done | rfl | (simp only [List.length_drop, List.length_take]; rfl) | (go_simp; done) | (go_simp; rfl)) ?_; (with_reducible refine (wherryref18_Frame.calls kj54 a1_0 a1_1 a1_2 a1_3 _ _ l1_4 false _ ?side1 ?side2 A94.out).mono ?_); (case side1 => exact Kd.C_below HR1_4.out (by repeat (first | (with_reducible first | exact HB.out | apply b1 | apply b2 | apply b3 | refine below_set ?_ GE296.out | refine below_set ?_ GE297.out | refine below_set ?_ GE309.out | refine below_set ?_ GE322.out | refine below_set ?_ GE336.out) | exact HB.out))); (case side2 => exact HC1_4.out); rintro e w136 ⟨rfl, hb⟩; refine ⟨_, rfl, ?_⟩; have n0_ := Aside0.mk (Kd.R_below (by (with_reducible repeat (first | apply R1 | apply R2 | apply R3)); exact (Kd.R_mono (Kd.R_far (p := ⟨gb336, 6, none⟩) (Kd.R_far (p := ⟨gb336, 5, none⟩) (Kd.R_far (p := ⟨gb336, 4, none⟩) (Kd.R_far (p := ⟨gb336, 3, none⟩) (Kd.R_far (p := ⟨gb336, 2, none⟩) (Kd.R_far (p := ⟨gb336, 1, none⟩) (Kd.R_far (p := ⟨gb336, 0, none⟩) (Kd.R_types HO_310001.out BK336.out (by decide)) (fun _ hk => hk.2) (.int .i64 t323)) (fun _ hk => hk.2) (.slice Ao93 t324.length co93)) (fun _ hk => hk.2) (.bool t327)) (fun _ hk => hk.2) (.int .i64 t328)) (fun _ hk => hk.2) (.int .i64 t329)) (fun _ hk => hk.2) (.int .i64 t330)) (fun _ hk => hk.2) (.bool t331)) (fun _ h_ => h_.1))) hb); have n1_ := Aside0.mk (Kd.R_below (by (with_reducible repeat (first | apply R1 | apply R2 | apply R3)); exact (Kd.R_mono (Kd.R_far (p := ⟨gb336, 6, none⟩) (Kd.R_far (p := ⟨gb336, 5, none⟩) (Kd.R_far (p := ⟨gb336, 4, none⟩) (Kd.R_far (p := ⟨gb336, 3, none⟩) (Kd.R_far (p := ⟨gb336, 2, none⟩) (Kd.R_far (p := ⟨gb336, 1, none⟩) (Kd.R_far (p := ⟨gb336, 0, none⟩) (Kd.R_types HO315.out BK336.out (by decide)) (fun _ hk => hk.2) (.int .i64 t323)) (fun _ hk => hk.2) (.slice Ao93 t324.length co93)) (fun _ hk => hk.2) (.bool t327)) (fun _ hk => hk.2) (.int .i64 t328)) (fun _ hk => hk.2) (.int .i64 t329)) (fun _ hk => hk.2) (.int .i64 t330)) (fun _ hk => hk.2) (.bool t331)) (fun _ h_ => h_.1))) hb); have n2_ := Aside0.mk (Kd.R_below (by (with_reducible repeat (first | apply R1 | apply R2 | apply R3)); exact (Kd.R_mono (Kd.R_far (p := ⟨gb336, 6, none⟩) (Kd.R_far (p := ⟨gb336, 5, none⟩) (Kd.R_far (p := ⟨gb336, 4, none⟩) (Kd.R_far (p := ⟨gb336, 3, none⟩) (Kd.R_far (p := ⟨gb336, 2, none⟩) (Kd.R_far (p := ⟨gb336, 1, none⟩) (Kd.R_far (p := ⟨gb336, 0, none⟩) (Kd.R_types HO326.out BK336.out (by decide)) (fun _ hk => hk.2) (.int .i64 t323)) (fun _ hk => hk.2) (.slice Ao93 t324.length co93)) (fun _ hk => hk.2) (.bool t327)) (fun _ hk => hk.2) (.int .i64 t328)) (fun _ hk => hk.2) (.int .i64 t329)) (fun _ hk => hk.2) (.int .i64 t330)) (fun _ hk => hk.2) (.bool t331)) (fun _ h_ => h_.1))) hb); have n3_ := Aside0.mk (Kd.S_below (by (with_reducible repeat (first | apply S1 | apply S2 | apply S3)); exact (Kd.S_mono (Kd.S_far (p := ⟨gb336, 6, none⟩) (Kd.S_far (p := ⟨gb336, 5, none⟩) (Kd.S_far (p := ⟨gb336, 4, none⟩) (Kd.S_far (p := ⟨gb336, 3, none⟩) (Kd.S_far (p := ⟨gb336, 2, none⟩) (Kd.S_far (p := ⟨gb336, 1, none⟩) (Kd.S_far (p := ⟨gb336, 0, none⟩) (Kd.S_types HO334.out BK336.out (by decide)) (fun _ hk => hk.2) (.int .i64 t323)) (fun _ hk => hk.2) (.slice Ao93 t324.length co93)) (fun _ hk => hk.2) (.bool t327)) (fun _ hk => hk.2) (.int .i64 t328)) (fun _ hk => hk.2) (.int .i64 t329)) (fun _ hk => hk.2) (.int .i64 t330)) (fun _ hk => hk.2) (.bool t331)) (fun _ h_ => h_.1))) hb); have n4_ := Aside0.mk (blk_below (g := gb296) (o := .cells #[.int .i64 a0_0, .slice A0_1 l0_1.length c0_1, .bool a0_2, .int .i64 a0_3, .int .i64 a0_4, .int .i64 a0_5, .bool false] 24 (0, 0)) (by (with_reducible repeat (first | refine k2 ?_ _ | refine k3 ?_ | refine k1 ?_ _)); refine blk_far ?_ NB296_336.out _; (with_reducible repeat (first | refine k2 ?_ _ | refine k3 ?_ | refine k1 ?_ _)); refine blk_far ?_ NB296_336.out _; (with_reducible repeat (first | refine k2 ?_ _ | refine k3 ?_ | refine k1 ?_ _)); refine blk_far ?_ NB296_336.out _; (with_reducible repeat (first | refine k2 ?_ _ | refine k3 ?_ | refine k1 ?_ _)); refine blk_far ?_ NB296_336.out _; (with_reducible repeat (first | refine k2 ?_ _ | refine k3 ?_ | refine k1 ?_ _)); refine blk_far ?_ NB296_336.out _; (with_reducible repeat (first | refine k2 ?_ _ | refine k3 ?_ | refine k1 ?_ _)); refine blk_far ?_ NB296_336.out _; (with_reducible repeat (first | refine k2 ?_ _ | refine k3 ?_ | refine k1 ?_ _)); refine blk_far ?_ NB296_336.out _; (with_reducible repeat (first | refine k2 ?_ _ | refine k3 ?_ | refine k1 ?_ _)); exact BK296.out) hb); have n5_ := Aside0.mk (blk_below (g := gb297) (o := .cells #[.int .i64 a1_0, .int .i64 a1_1, .int .i64 a1_2, .int .i64 a1_3, .slice A1_4 l1_4.length c1_4] 32 (0, 0)) (by (with_reducible repeat (first | refine k2 ?_ _ | refine k3 ?_ | refine k1 ?_ _)); refine blk_far ?_ NB297_336.out _; (with_reducible repeat (first | refine k2 ?_ _ | refine k3 ?_ | refine k1 ?_ _)); refine blk_far ?_ NB297_336.out _; (with_reducible repeat (first | refine k2 ?_ _ | refine k3 ?_ | refine k1 ?_ _)); refine blk_far ?_ NB297_336.out _; (with_reducible repeat (first | refine k2 ?_ _ | refine k3 ?_ | refine k1 ?_ _)); refine blk_far ?_ NB297_336.out _; (with_reducible repeat (first | refine k2 ?_ _ | refine k3 ?_ | refine k1 ?_ _)); refine blk_far ?_ NB297_336.out _; (with_reducible repeat (first | refine k2 ?_ _ | refine k3 ?_ | refine k1 ?_ _)); refine blk_far ?_ NB297_336.out _; (with_reducible repeat (first | refine k2 ?_ _ | refine k3 ?_ | refine k1 ?_ _)); refine blk_far ?_ NB297_336.out _; (with_reducible repeat (first | refine k2 ?_ _ | refine k3 ?_ | refine k1 ?_ _)); exact BK297.out) hb); have n6_ := Aside0.mk (blk_below (g := gb309) (o := .cells #[.int .i64 t299, .slice Ao63 t300.length co63, .bool t303, .int .i64 t304, .int .i64 t305, .int .i64 t306, .bool t307] 24 (0, 0)) (by (with_reducible repeat (first | refine k2 ?_ _ | refine k3 ?_ | refine k1 ?_ _)); refine blk_far ?_ NB309_336.out _; (with_reducible repeat (first | refine k2 ?_ _ | refine k3 ?_ | refine k1 ?_ _)); refine blk_far ?_ NB309_336.out _; (with_reducible repeat (first | refine k2 ?_ _ | refine k3 ?_ | refine k1 ?_ _)); refine blk_far ?_ NB309_336.out _; (with_reducible repeat (first | refine k2 ?_ _ | refine k3 ?_ | refine k1 ?_ _)); refine blk_far ?_ NB309_336.out _; (with_reducible repeat (first | refine k2 ?_ _ | refine k3 ?_ | refine k1 ?_ _)); refine blk_far ?_ NB309_336.out _; (with_reducible repeat (first | refine k2 ?_ _ | refine k3 ?_ | refine k1 ?_ _)); refine blk_far ?_ NB309_336.out _; (with_reducible repeat (first | refine k2 ?_ _ | refine k3 ?_ | refine k1 ?_ _)); refine blk_far ?_ NB309_336.out _; (with_reducible repeat (first | refine k2 ?_ _ | refine k3 ?_ | refine k1 ?_ _)); exact BK309.out) hb); have n7_ := Aside0.mk (blk_below (g := gb322) (o := .cells #[.int .i64 t312, .slice Ao84 t313.length co84, .bool t316, .int .i64 t317, .int .i64 t318, .int .i64 t319, .bool t320] 24 (0, 0)) (by (with_reducible repeat (first | refine k2 ?_ _ | refine k3 ?_ | refine k1 ?_ _)); refine blk_far ?_ NB322_336.out _; (with_reducible repeat (first | refine k2 ?_ _ | refine k3 ?_ | refine k1 ?_ _)); refine blk_far ?_ NB322_336.out _; (with_reducible repeat (first | refine k2 ?_ _ | refine k3 ?_ | refine k1 ?_ _)); refine blk_far ?_ NB322_336.out _; (with_reducible repeat (first | refine k2 ?_ _ | refine k3 ?_ | refine k1 ?_ _)); refine blk_far ?_ NB322_336.out _; (with_reducible repeat (first | refine k2 ?_ _ | refine k3 ?_ | refine k1 ?_ _)); refine blk_far ?_ NB322_336.out _; (with_reducible repeat (first | refine k2 ?_ _ | refine k3 ?_ | refine k1 ?_ _)); refine blk_far ?_ NB322_336.out _; (with_reducible repeat (first | refine k2 ?_ _ | refine k3 ?_ | refine k1 ?_ _)); refine blk_far ?_ NB322_336.out _; (with_reducible repeat (first | refine k2 ?_ _ | refine k3 ?_ | refine k1 ?_ _)); exact BK322.out) hb); have n8_ := Aside0.mk (blk_below (g := gb336) (o := .cells #[.int .i64 t323, .slice Ao93 t324.length co93, .bool t327, .int .i64 t328, .int .i64 t329, .int .i64 t330, .bool t331] 24 (0, 0)) (by (with_reducible repeat (first | refine k2 ?_ _ | refine k3 ?_ | refine k1 ?_ _)); refine blk_put (cs := #[.int .i64 t323, .slice Ao93 t324.length co93, .bool t327, .int .i64 t328, .int .i64 t329, .int .i64 t330, .bool false]) ?_ 6 _ rfl; (with_reducible repeat (first | refine k2 ?_ _ | refine k3 ?_ | refine k1 ?_ _)); refine blk_put (cs := #[.int .i64 t323, .slice Ao93 t324.length co93, .bool t327, .int .i64 t328, .int .i64 t329, .int .i64 0, .bool false]) ?_ 5 _ rfl; (with_reducible repeat (first | refine k2 ?_ _ | refine k3 ?_ | refine k1 ?_ _)); refine blk_put (cs := #[.int .i64 t323, .slice Ao93 t324.length co93, .bool t327, .int .i64 t328, .int .i64 0, .int .i64 0, .bool false]) ?_ 4 _ rfl; (with_reducible repeat (first | refine k2 ?_ _ | refine k3 ?_ | refine k1 ?_ _)); refine blk_put (cs := #[.int .i64 t323, .slice Ao93 t324.length co93, .bool t327, .int .i64 0, .int .i64 0, .int .i64 0, .bool false]) ?_ 3 _ rfl; (with_reducible repeat (first | refine k2 ?_ _ | refine k3 ?_ | refine k1 ?_ _)); refine blk_put (cs := #[.int .i64 t323, .slice Ao93 t324.length co93, .bool false, .int .i64 0, .int .i64 0, .int .i64 0, .bool false]) ?_ 2 _ rfl; (with_reducible repeat (first | refine k2 ?_ _ | refine k3 ?_ | refine k1 ?_ _)); refine blk_put (cs := #[.int .i64 t323, .slice none 0 0, .bool false, .int .i64 0, .int .i64 0, .int .i64 0, .bool false]) ?_ 1 _ rfl; (with_reducible repeat (first | refine k2 ?_ _ | refine k3 ?_ | refine k1 ?_ _)); refine blk_put (cs := #[.int .i64 0, .slice none 0 0, .bool false, .int .i64 0, .int .i64 0, .int .i64 0, .bool false]) ?_ 0 _ rfl; (with_reducible repeat (first | refine k2 ?_ _ | refine k3 ?_ | refine k1 ?_ _)); exact BK336.out) hb); have n9_ := Aside0.mk (below_step (by repeat (first | (with_reducible first | exact HB.out | apply b1 | apply b2 | apply b3 | refine below_set ?_ GE296.out | refine below_set ?_ GE297.out | refine below_set ?_ GE309.out | refine below_set ?_ GE322.out | refine below_set ?_ GE336.out) | exact HB.out)) hb); clear HO_310001; clear HO315; clear HO326; clear HO334; clear BK296; clear BK297; clear BK309; clear BK322; clear BK336; clear HB; have HO_310001 := n0_; have HO315 := n1_; have HO326 := n2_; have HO334 := n3_; have BK296 := n4_; have BK297 := n5_; have BK309 := n6_; have BK322 := n7_; have BK336 := n8_; have HB := n9_; clear n0_ n1_ n2_ n3_ n4_ n5_ n6_ n7_ n8_ n9_; (try clear hb); (try clear hb2); (try clear hk); (try clear hi); obtain ⟨hcz137_0, hcz137_1, hcz137_2, hcz137_3, hcz137_4, hfz137_0, hfz137_1, hfz137_2, hfz137_3, hfz137_4⟩ := cells5 BK297.out) | (go_at_call 24; (with_reducible refine (wherryref18_Frame.calls kj54 a1_0 a1_1 a1_2 a1_3 _ _ l1_4 false _ ?side1 ?side2 A121.out).mono ?_); (case side1 => first | with_reducible exact (Kd.C_below HR1_4.out HB.out) | exact sC ((Kd.C_below HR1_4.out HB.out))); (case side2 => exact HC1_4.out); rintro e w138 ⟨rfl, hb⟩; have n0_ := Aside0.mk (bR HO_310001.out hb); have n1_ := Aside0.mk (bR HO315.out hb); have n2_ := Aside0.mk (bR HO326.out hb); have n3_ := Aside0.mk (Kd.S_below (by first | with_reducible exact HO334.out | exact sS HO334.out) hb); have n4_ := Aside0.mk (bK BK296.out hb); have n5_ := Aside0.mk (bK BK297.out hb); have n6_ := Aside0.mk (bK BK309.out hb); have n7_ := Aside0.mk (bK BK322.out hb); have n8_ := Aside0.mk (bK BK336.out hb); have n9_ := Aside0.mk (below_step (by repeat (first | (with_reducible first | exact HB.out | apply b1 | apply b2 | apply b3 | refine below_set ?_ GE296.out | refine below_set ?_ GE297.out | refine below_set ?_ GE309.out | refine below_set ?_ GE322.out | refine below_set ?_ GE336.out) | exact HB.out)) hb); clear HO_310001; clear HO315; clear HO326; clear HO334; clear BK296; clear BK297; clear BK309; clear BK322; clear BK336; clear HB; have HO_310001 := n0_; have HO315 := n1_; have HO326 := n2_; have HO334 := n3_; have BK296 := n4_; have BK297 := n5_; have BK309 := n6_; have BK322 := n7_; have BK336 := n8_; have HB := n9_; clear n0_ n1_ n2_ n3_ n4_ n5_ n6_ n7_ n8_ n9_; (try clear hb); (try clear hb2); (try clear hk); (try clear hi)))
           go_meet
           case rel => exact ⟨_, ((t321 != 1)), (by first | rfl | (simp; done) | (simp [*]; done)), H', ⟨by have := HJ2.out; have := HJ54.out; first | omega | exact Nat.le_refl _⟩, ⟨by (with_reducible repeat (first | apply S1 | apply S2 | apply S3)); exact Kd.S_mono HO334.out (fun _ hk => ⟨hk.1.1.2, ⟨hk.1.2, ⟨hk.1.1.1, hk.2⟩⟩⟩)⟩, ⟨by (with_reducible repeat (first | apply R1 | apply R2 | apply R3)); exact Kd.R_mono HO_310001.out (fun _ hk => ⟨hk.1.2, hk.2⟩)⟩, ⟨by (with_reducible repeat (first | apply R1 | apply R2 | apply R3)); exact Kd.R_mono HO315.out (fun _ hk => ⟨hk.1.2, hk.2⟩)⟩, ⟨by (with_reducible repeat (first | apply R1 | apply R2 | apply R3)); exact Kd.R_mono HO326.out (fun _ hk => ⟨hk.1.2, hk.2⟩)⟩, ⟨by (with_reducible repeat (first | refine k2 ?_ _ | refine k3 ?_ | refine k1 ?_ _)); exact BK296.out⟩, ⟨by (with_reducible repeat (first | refine k2 ?_ _ | refine k3 ?_ | refine k1 ?_ _)); exact BK297.out⟩, ⟨by (with_reducible repeat (first | refine k2 ?_ _ | refine k3 ?_ | refine k1 ?_ _)); exact BK309.out⟩, ⟨by (with_reducible repeat (first | refine k2 ?_ _ | refine k3 ?_ | refine k1 ?_ _)); exact BK322.out⟩, ⟨by (with_reducible repeat (first | refine k2 ?_ _ | refine k3 ?_ | refine k1 ?_ _)); exact BK336.out⟩, ⟨by repeat (first | (with_reducible first | exact HB.out | apply b1 | apply b2 | apply b3 | refine below_set ?_ GE296.out | refine below_set ?_ GE297.out | refine below_set ?_ GE309.out | refine below_set ?_ GE322.out | refine below_set ?_ GE336.out) | exact HB.out)⟩⟩
        case rest =>
         clear HC72
         try clear c1
         try clear c2
         try clear p2
         try clear c3
         try clear c4
         try clear c5
         try clear c6
         try clear c6b0
         try clear c6b1
         try clear c7
         try clear c8
         try clear c9
         try clear c9b0
         try clear c9b1
         try clear c10
         try clear c11
         try clear c12
         try clear c13
         try clear c14
         try clear c16
         try clear c18
         try clear c20
         try clear c21
         try clear c21b0
         try clear c21b1
         try clear c23
         try clear c24
         try clear c25
         try clear c29
         try clear c30
         try clear c36
         try clear c40
         try clear c41
         try clear c46
         try clear c50
         try clear c51
         try clear c56
         try clear c60
         try clear c61
         try clear c65
         try clear c65b0
         try clear c65b1
         try clear c66
         try clear c67
         try clear c69
         try clear c73
         try clear c74
         try clear c76
         try clear c80
         try clear c81
         try clear c82
         try clear c88
         try clear c89
         try clear c90
         try clear c91
         try clear c95
         try clear c96
         try clear c96b0
         try clear c96b1
         try clear c98
         try clear c99
         try clear c100
         try clear c101
         try clear c102
         try clear c107
         try clear c108
         try clear c109
         try clear c110
         try clear c115
         try clear c116
         try clear c117
         try clear c118
         try clear c122
         try clear c123
         try clear c124
         try clear c125
         try clear c126
         try clear c131
         try clear c132
         try clear c133
         try clear c134
         try clear hcz103_0
         try clear hcz103_1
         try clear hcz103_2
         try clear hcz103_3
         try clear hcz103_4
         try clear hcz105_0
         try clear hcz105_1
         try clear hcz105_2
         try clear hcz105_3
         try clear hcz105_4
         try clear hcz111_0
         try clear hcz111_1
         try clear hcz111_2
         try clear hcz111_3
         try clear hcz111_4
         try clear hcz113_0
         try clear hcz113_1
         try clear hcz113_2
         try clear hcz113_3
         try clear hcz113_4
         try clear hcz119_0
         try clear hcz119_1
         try clear hcz119_2
         try clear hcz119_3
         try clear hcz119_4
         try clear hcz11_0
         try clear hcz11_1
         try clear hcz11_2
         try clear hcz11_3
         try clear hcz11_4
         try clear hcz11_5
         try clear hcz11_6
         try clear hcz127_0
         try clear hcz127_1
         try clear hcz127_2
         try clear hcz127_3
         try clear hcz127_4
         try clear hcz129_0
         try clear hcz129_1
         try clear hcz129_2
         try clear hcz129_3
         try clear hcz129_4
         try clear hcz12_0
         try clear hcz12_1
         try clear hcz12_2
         try clear hcz12_3
         try clear hcz12_4
         try clear hcz135_0
         try clear hcz135_1
         try clear hcz135_2
         try clear hcz135_3
         try clear hcz135_4
         try clear hcz137_0
         try clear hcz137_1
         try clear hcz137_2
         try clear hcz137_3
         try clear hcz137_4
         try clear hcz15_0
         try clear hcz15_1
         try clear hcz15_2
         try clear hcz15_3
         try clear hcz15_4
         try clear hcz15_5
         try clear hcz15_6
         try clear hcz16_0
         try clear hcz16_1
         try clear hcz16_2
         try clear hcz16_3
         try clear hcz16_4
         try clear hcz26_0
         try clear hcz26_1
         try clear hcz26_2
         try clear hcz26_3
         try clear hcz26_4
         try clear hcz26_5
         try clear hcz26_6
         try clear hcz31_0
         try clear hcz31_1
         try clear hcz31_2
         try clear hcz31_3
         try clear hcz31_4
         try clear hcz31_5
         try clear hcz31_6
         try clear hcz33_0
         try clear hcz33_1
         try clear hcz33_2
         try clear hcz33_3
         try clear hcz33_4
         try clear hcz33_5
         try clear hcz33_6
         try clear hcz37_0
         try clear hcz37_1
         try clear hcz37_2
         try clear hcz37_3
         try clear hcz37_4
         try clear hcz37_5
         try clear hcz37_6
         try clear hcz42_0
         try clear hcz42_1
         try clear hcz42_2
         try clear hcz42_3
         try clear hcz42_4
         try clear hcz42_5
         try clear hcz42_6
         try clear hcz44_0
         try clear hcz44_1
         try clear hcz44_2
         try clear hcz44_3
         try clear hcz44_4
         try clear hcz44_5
         try clear hcz44_6
         try clear hcz47_0
         try clear hcz47_1
         try clear hcz47_2
         try clear hcz47_3
         try clear hcz47_4
         try clear hcz47_5
         try clear hcz47_6
         try clear hcz52_0
         try clear hcz52_1
         try clear hcz52_2
         try clear hcz52_3
         try clear hcz52_4
         try clear hcz52_5
         try clear hcz52_6
         try clear hcz54_0
         try clear hcz54_1
         try clear hcz54_2
         try clear hcz54_3
         try clear hcz54_4
         try clear hcz54_5
         try clear hcz54_6
         try clear hcz57_0
         try clear hcz57_1
         try clear hcz57_2
         try clear hcz57_3
         try clear hcz57_4
         try clear hcz57_5
         try clear hcz57_6
         try clear hcz62_0
         try clear hcz62_1
         try clear hcz62_2
         try clear hcz62_3
         try clear hcz62_4
         try clear hcz62_5
         try clear hcz62_6
         try clear hcz64_0
         try clear hcz64_1
         try clear hcz64_2
         try clear hcz64_3
         try clear hcz64_4
         try clear hcz64_5
         try clear hcz64_6
         try clear hcz68_0
         try clear hcz68_1
         try clear hcz68_2
         try clear hcz68_3
         try clear hcz68_4
         try clear hcz68_5
         try clear hcz68_6
         try clear hcz75_0
         try clear hcz75_1
         try clear hcz75_2
         try clear hcz75_3
         try clear hcz75_4
         try clear hcz75_5
         try clear hcz75_6
         try clear hcz77_0
         try clear hcz77_1
         try clear hcz77_2
         try clear hcz77_3
         try clear hcz77_4
         try clear hcz83_0
         try clear hcz83_1
         try clear hcz83_2
         try clear hcz83_3
         try clear hcz83_4
         try clear hcz83_5
         try clear hcz83_6
         try clear hcz85_0
         try clear hcz85_1
         try clear hcz85_2
         try clear hcz85_3
         try clear hcz85_4
         try clear hcz85_5
         try clear hcz85_6
         try clear hcz8_0
         try clear hcz8_1
         try clear hcz8_2
         try clear hcz8_3
         try clear hcz8_4
         try clear hcz8_5
         try clear hcz8_6
         try clear hcz92_0
         try clear hcz92_1
         try clear hcz92_2
         try clear hcz92_3
         try clear hcz92_4
         try clear hcz92_5
         try clear hcz92_6
         try clear hfz103_0
         try clear hfz103_1
         try clear hfz103_2
         try clear hfz103_3
         try clear hfz103_4
         try clear hfz105_0
         try clear hfz105_1
         try clear hfz105_2
         try clear hfz105_3
         try clear hfz105_4
         try clear hfz111_0
         try clear hfz111_1
         try clear hfz111_2
         try clear hfz111_3
         try clear hfz111_4
         try clear hfz113_0
         try clear hfz113_1
         try clear hfz113_2
         try clear hfz113_3
         try clear hfz113_4
         try clear hfz119_0
         try clear hfz119_1
         try clear hfz119_2
         try clear hfz119_3
         try clear hfz119_4
         try clear hfz11_0
         try clear hfz11_1
         try clear hfz11_2
         try clear hfz11_3
         try clear hfz11_4
         try clear hfz11_5
         try clear hfz11_6
         try clear hfz127_0
         try clear hfz127_1
         try clear hfz127_2
         try clear hfz127_3
         try clear hfz127_4
         try clear hfz129_0
         try clear hfz129_1
         try clear hfz129_2
         try clear hfz129_3
         try clear hfz129_4
         try clear hfz12_0
         try clear hfz12_1
         try clear hfz12_2
         try clear hfz12_3
         try clear hfz12_4
         try clear hfz135_0
         try clear hfz135_1
         try clear hfz135_2
         try clear hfz135_3
         try clear hfz135_4
         try clear hfz137_0
         try clear hfz137_1
         try clear hfz137_2
         try clear hfz137_3
         try clear hfz137_4
         try clear hfz15_0
         try clear hfz15_1
         try clear hfz15_2
         try clear hfz15_3
         try clear hfz15_4
         try clear hfz15_5
         try clear hfz15_6
         try clear hfz16_0
         try clear hfz16_1
         try clear hfz16_2
         try clear hfz16_3
         try clear hfz16_4
         try clear hfz26_0
         try clear hfz26_1
         try clear hfz26_2
         try clear hfz26_3
         try clear hfz26_4
         try clear hfz26_5
         try clear hfz26_6
         try clear hfz31_0
         try clear hfz31_1
         try clear hfz31_2
         try clear hfz31_3
         try clear hfz31_4
         try clear hfz31_5
         try clear hfz31_6
         try clear hfz33_0
         try clear hfz33_1
         try clear hfz33_2
         try clear hfz33_3
         try clear hfz33_4
         try clear hfz33_5
         try clear hfz33_6
         try clear hfz37_0
         try clear hfz37_1
         try clear hfz37_2
         try clear hfz37_3
         try clear hfz37_4
         try clear hfz37_5
         try clear hfz37_6
         try clear hfz42_0
         try clear hfz42_1
         try clear hfz42_2
         try clear hfz42_3
         try clear hfz42_4
         try clear hfz42_5
         try clear hfz42_6
         try clear hfz44_0
         try clear hfz44_1
         try clear hfz44_2
         try clear hfz44_3
         try clear hfz44_4
         try clear hfz44_5
         try clear hfz44_6
         try clear hfz47_0
         try clear hfz47_1
         try clear hfz47_2
         try clear hfz47_3
         try clear hfz47_4
         try clear hfz47_5
         try clear hfz47_6
         try clear hfz52_0
         try clear hfz52_1
         try clear hfz52_2
         try clear hfz52_3
         try clear hfz52_4
         try clear hfz52_5
         try clear hfz52_6
         try clear hfz54_0
         try clear hfz54_1
         try clear hfz54_2
         try clear hfz54_3
         try clear hfz54_4
         try clear hfz54_5
         try clear hfz54_6
         try clear hfz57_0
         try clear hfz57_1
         try clear hfz57_2
         try clear hfz57_3
         try clear hfz57_4
         try clear hfz57_5
         try clear hfz57_6
         try clear hfz62_0
         try clear hfz62_1
         try clear hfz62_2
         try clear hfz62_3
         try clear hfz62_4
         try clear hfz62_5
         try clear hfz62_6
         try clear hfz64_0
         try clear hfz64_1
         try clear hfz64_2
         try clear hfz64_3
         try clear hfz64_4
         try clear hfz64_5
         try clear hfz64_6
         try clear hfz68_0
         try clear hfz68_1
         try clear hfz68_2
         try clear hfz68_3
         try clear hfz68_4
         try clear hfz68_5
         try clear hfz68_6
         try clear hfz75_0
         try clear hfz75_1
         try clear hfz75_2
         try clear hfz75_3
         try clear hfz75_4
         try clear hfz75_5
         try clear hfz75_6
         try clear hfz77_0
         try clear hfz77_1
         try clear hfz77_2
         try clear hfz77_3
         try clear hfz77_4
         try clear hfz83_0
         try clear hfz83_1
         try clear hfz83_2
         try clear hfz83_3
         try clear hfz83_4
         try clear hfz83_5
         try clear hfz83_6
         try clear hfz85_0
         try clear hfz85_1
         try clear hfz85_2
         try clear hfz85_3
         try clear hfz85_4
         try clear hfz85_5
         try clear hfz85_6
         try clear hfz8_0
         try clear hfz8_1
         try clear hfz8_2
         try clear hfz8_3
         try clear hfz8_4
         try clear hfz8_5
         try clear hfz8_6
         try clear hfz92_0
         try clear hfz92_1
         try clear hfz92_2
         try clear hfz92_3
         try clear hfz92_4
         try clear hfz92_5
         try clear hfz92_6
         try clear p2
         obtain ⟨kq, x80_71, rfl, HA, HJ71, HO_10, HO_310001, HO_323001, HO_337001, BK296, BK297, BK309, BK322, BK336, HB⟩ := hcut
         cases kq with
         | zero => exact absurd HA.out (by simp [wherrylaw21_SenderOver.j2])
         | succ kj71 =>
          have H := HA.out
          clear HA
          simp only [wherrylaw21_SenderOver.j2] at H
          by_cases c139 : x80_71 = true
          ·subst c139
           have H1 : (some false) = some r := by rw [if_pos rfl] at H; exact H
           clear H
           have H := H1
           clear H1
           obtain rfl := Option.some.inj H
           go_wp2
           go_ret
           exact ⟨by first | rfl | (simp [errW_none, errW_some] <;> rfl) | (simp [*, errW_none, errW_some] <;> rfl), by repeat (first | (with_reducible first | exact HB.out | apply b1 | apply b2 | apply b3 | refine below_set ?_ GE296.out | refine below_set ?_ GE297.out | refine below_set ?_ GE309.out | refine below_set ?_ GE322.out | refine below_set ?_ GE336.out) | exact HB.out)⟩
          ·replace c139 := Bool.eq_false_iff.mpr c139
           subst c139
           have H1 : ((wherrykeep_Send.f kj71 t312 t313 t316 t317 t318 t319 t320 0 ([] : List Int) false 0 0 0 false).bind fun t340 => (if t340 = true then (if t335 = 0 then (if (t332.length : Int) = 0 then ((wherrykeep_Send.f kj71 t323 t324 t327 t328 t329 t330 t331 t299 t300 t303 t304 t305 t306 t307).bind fun t341 => (if t341 = true then ((wherrylaw21_wakes.f kj71).bind fun t342 => (some t342)) else (some false))) else (some false)) else (some false)) else (some false))) = some r := by rw [if_neg (show ¬ (false = true) by decide)] at H; exact H
           clear H
           have H := H1
           clear H1
           replace H := Option.bind_eq_some_iff.mp H
           obtain ⟨t340, A1400, H⟩ := H
           replace H : (if t340 = true then (if t335 = 0 then (if (t332.length : Int) = 0 then ((wherrykeep_Send.f kj71 t323 t324 t327 t328 t329 t330 t331 t299 t300 t303 t304 t305 t306 t307).bind fun t341 => (if t341 = true then ((wherrylaw21_wakes.f kj71).bind fun t342 => (some t342)) else (some false))) else (some false)) else (some false)) else (some false)) = some r := H
           have A140 := Aside0.mk A1400
           clear A1400
           by_cases c141 : t340 = true
           ·subst c141
            have H1 : (if t335 = 0 then (if (t332.length : Int) = 0 then ((wherrykeep_Send.f kj71 t323 t324 t327 t328 t329 t330 t331 t299 t300 t303 t304 t305 t306 t307).bind fun t341 => (if t341 = true then ((wherrylaw21_wakes.f kj71).bind fun t342 => (some t342)) else (some false))) else (some false)) else (some false)) = some r := by rw [if_pos rfl] at H; exact H
            clear H
            have H := H1
            clear H1
            by_cases c142 : t335 = 0
            ·rw [if_pos c142] at H
             have c142b0 : (t335 == 0) = true := beq_iff_eq.mpr c142
             have c142b1 : (t335 != 0) = false := bne_eq_false_iff_eq.mpr c142
             clear c142
             by_cases c143 : (t332.length : Int) = 0
             ·rw [if_pos c143] at H
              have c143b0 : ((t332.length : Int) == 0) = true := beq_iff_eq.mpr c143
              have c143b1 : ((t332.length : Int) != 0) = false := bne_eq_false_iff_eq.mpr c143
              clear c143
              replace H := Option.bind_eq_some_iff.mp H
              obtain ⟨t341, A1440, H⟩ := H
              replace H : (if t341 = true then ((wherrylaw21_wakes.f kj71).bind fun t342 => (some t342)) else (some false)) = some r := H
              have A144 := Aside0.mk A1440
              clear A1440
              by_cases c145 : t341 = true
              ·subst c145
               have H1 : ((wherrylaw21_wakes.f kj71).bind fun t342 => (some t342)) = some r := by rw [if_pos rfl] at H; exact H
               clear H
               have H := H1
               clear H1
               replace H := Option.bind_eq_some_iff.mp H
               obtain ⟨t342, A1460, H⟩ := H
               replace H : (some t342) = some r := H
               have A146 := Aside0.mk A1460
               clear A1460
               obtain rfl := Option.some.inj H
               have hnb147 := NB322_296.out
               have hnc147 := NB296_322.out
               have hnb148 := NB322_297.out
               have hnc148 := NB297_322.out
               have hnb149 := NB322_309.out
               have hnc149 := NB309_322.out
               have hnb150 := NB322_336.out
               have hnc150 := NB336_322.out
               obtain ⟨hcz151_0, hcz151_1, hcz151_2, hcz151_3, hcz151_4, hcz151_5, hcz151_6, hfz151_0, hfz151_1, hfz151_2, hfz151_3, hfz151_4, hfz151_5, hfz151_6⟩ := cells7 BK322.out
               go_wp2_with (first | ((with_reducible refine gate_callee (f := 21) rfl ?_); refine goesL_ (some 83) rfl rfl Try.func21 (by kernel_rfl) rfl #[.agg #[.int .i64 t312, .slice Ao84 t313.length co84, .bool t316, .int .i64 t317, .int .i64 t318, .int .i64 t319, .bool t320], .agg #[.int .i64 0, .slice none 0 0, .bool false, .int .i64 0, .int .i64 0, .int .i64 0, .bool false]] rfl (by (try simp only [List.map_toArray, List.map_cons, List.map_nil]); first | done | rfl | (simp only [List.length_drop, List.length_take]; rfl) | (go_simp; done) | (go_simp; rfl)) ?_; (refine (wherrykeep_Send.calls kj71 t312 _ _ t313 t316 t317 t318 t319 t320 0 _ _ ([] : List Int) false 0 0 0 false true _ ?side1 ?side2 ?side3 ?side4 A140.out).mono ?_); (case side1 => first | with_reducible exact (Kd.R_reads' HO_323001.out).2.2 | exact sC ((Kd.R_reads' HO_323001.out).2.2)); (case side2 => exact (Kd.R_reads' HO_323001.out).2.1); (case side3 => exact Kd.C_nil _ _); (case side4 => exact Nat.le_refl _); rintro e w152 ⟨rfl, hb⟩; refine ⟨_, rfl, ?_⟩; have n0_ := Aside0.mk (Kd.S_below (by first | with_reducible exact HO_10.out | exact sS HO_10.out) hb); have n1_ := Aside0.mk (bR HO_310001.out hb); have n2_ := Aside0.mk (bR HO_323001.out hb); have n3_ := Aside0.mk (bR HO_337001.out hb); have n4_ := Aside0.mk (bK BK296.out hb); have n5_ := Aside0.mk (bK BK297.out hb); have n6_ := Aside0.mk (bK BK309.out hb); have n7_ := Aside0.mk (bK BK322.out hb); have n8_ := Aside0.mk (bK BK336.out hb); have n9_ := Aside0.mk (below_step (by repeat (first | (with_reducible first | exact HB.out | apply b1 | apply b2 | apply b3 | refine below_set ?_ GE296.out | refine below_set ?_ GE297.out | refine below_set ?_ GE309.out | refine below_set ?_ GE322.out | refine below_set ?_ GE336.out) | exact HB.out)) hb); clear HO_10; clear HO_310001; clear HO_323001; clear HO_337001; clear BK296; clear BK297; clear BK309; clear BK322; clear BK336; clear HB; have HO_10 := n0_; have HO_310001 := n1_; have HO_323001 := n2_; have HO_337001 := n3_; have BK296 := n4_; have BK297 := n5_; have BK309 := n6_; have BK322 := n7_; have BK336 := n8_; have HB := n9_; clear n0_ n1_ n2_ n3_ n4_ n5_ n6_ n7_ n8_ n9_; (try clear hb); (try clear hb2); (try clear hk); (try clear hi); obtain ⟨Ao153, co153, eo153⟩ := Kd.S_slice HO_10.out; subst eo153; have hnb154 := NB336_296.out; have hnc154 := NB296_336.out; have hnb155 := NB336_297.out; have hnc155 := NB297_336.out; have hnb156 := NB336_309.out; have hnc156 := NB309_336.out; obtain ⟨hcz157_0, hcz157_1, hcz157_2, hcz157_3, hcz157_4, hcz157_5, hcz157_6, hfz157_0, hfz157_1, hfz157_2, hfz157_3, hfz157_4, hfz157_5, hfz157_6⟩ := cells7 BK336.out; have hnb158 := NB309_296.out; have hnc158 := NB296_309.out; have hnb159 := NB309_297.out; have hnc159 := NB297_309.out; obtain ⟨hcz160_0, hcz160_1, hcz160_2, hcz160_3, hcz160_4, hcz160_5, hcz160_6, hfz160_0, hfz160_1, hfz160_2, hfz160_3, hfz160_4, hfz160_5, hfz160_6⟩ := cells7 BK309.out) | (go_at_call 21; (with_reducible refine (wherrykeep_Send.calls kj71 t323 _ _ t324 t327 t328 t329 t330 t331 t299 _ _ t300 t303 t304 t305 t306 t307 true _ ?side1 ?side2 ?side3 ?side4 A144.out).mono ?_); (case side1 => first | with_reducible exact (Kd.R_reads' HO_337001.out).2.2 | exact sC ((Kd.R_reads' HO_337001.out).2.2)); (case side2 => exact (Kd.R_reads' HO_337001.out).2.1); (case side3 => first | with_reducible exact (Kd.R_reads' HO_310001.out).2.2 | exact sC ((Kd.R_reads' HO_310001.out).2.2)); (case side4 => exact (Kd.R_reads' HO_310001.out).2.1); rintro e w161 ⟨rfl, hb⟩; have n0_ := Aside0.mk (Kd.S_below (by first | with_reducible exact HO_10.out | exact sS HO_10.out) hb); have n1_ := Aside0.mk (bR HO_310001.out hb); have n2_ := Aside0.mk (bR HO_323001.out hb); have n3_ := Aside0.mk (bR HO_337001.out hb); have n4_ := Aside0.mk (bK BK296.out hb); have n5_ := Aside0.mk (bK BK297.out hb); have n6_ := Aside0.mk (bK BK309.out hb); have n7_ := Aside0.mk (bK BK322.out hb); have n8_ := Aside0.mk (bK BK336.out hb); have n9_ := Aside0.mk (below_step (by repeat (first | (with_reducible first | exact HB.out | apply b1 | apply b2 | apply b3 | refine below_set ?_ GE296.out | refine below_set ?_ GE297.out | refine below_set ?_ GE309.out | refine below_set ?_ GE322.out | refine below_set ?_ GE336.out) | exact HB.out)) hb); clear HO_10; clear HO_310001; clear HO_323001; clear HO_337001; clear BK296; clear BK297; clear BK309; clear BK322; clear BK336; clear HB; have HO_10 := n0_; have HO_310001 := n1_; have HO_323001 := n2_; have HO_337001 := n3_; have BK296 := n4_; have BK297 := n5_; have BK309 := n6_; have BK322 := n7_; have BK336 := n8_; have HB := n9_; clear n0_ n1_ n2_ n3_ n4_ n5_ n6_ n7_ n8_ n9_; (try clear hb); (try clear hb2); (try clear hk); (try clear hi)) | (go_at_call 12; (with_reducible refine (wherrylaw21_wakes.calls kj71  t342 _ A146.out).mono ?_); rintro e w162 ⟨rfl, hb⟩; have n0_ := Aside0.mk (Kd.S_below (by first | with_reducible exact HO_10.out | exact sS HO_10.out) hb); have n1_ := Aside0.mk (bR HO_310001.out hb); have n2_ := Aside0.mk (bR HO_323001.out hb); have n3_ := Aside0.mk (bR HO_337001.out hb); have n4_ := Aside0.mk (bK BK296.out hb); have n5_ := Aside0.mk (bK BK297.out hb); have n6_ := Aside0.mk (bK BK309.out hb); have n7_ := Aside0.mk (bK BK322.out hb); have n8_ := Aside0.mk (bK BK336.out hb); have n9_ := Aside0.mk (below_step (by repeat (first | (with_reducible first | exact HB.out | apply b1 | apply b2 | apply b3 | refine below_set ?_ GE296.out | refine below_set ?_ GE297.out | refine below_set ?_ GE309.out | refine below_set ?_ GE322.out | refine below_set ?_ GE336.out) | exact HB.out)) hb); clear HO_10; clear HO_310001; clear HO_323001; clear HO_337001; clear BK296; clear BK297; clear BK309; clear BK322; clear BK336; clear HB; have HO_10 := n0_; have HO_310001 := n1_; have HO_323001 := n2_; have HO_337001 := n3_; have BK296 := n4_; have BK297 := n5_; have BK309 := n6_; have BK322 := n7_; have BK336 := n8_; have HB := n9_; clear n0_ n1_ n2_ n3_ n4_ n5_ n6_ n7_ n8_ n9_; (try clear hb); (try clear hb2); (try clear hk); (try clear hi)))
               go_ret
               exact ⟨by first | rfl | (simp [errW_none, errW_some] <;> rfl) | (simp [*, errW_none, errW_some] <;> rfl), by repeat (first | (with_reducible first | exact HB.out | apply b1 | apply b2 | apply b3 | refine below_set ?_ GE296.out | refine below_set ?_ GE297.out | refine below_set ?_ GE309.out | refine below_set ?_ GE322.out | refine below_set ?_ GE336.out) | exact HB.out)⟩
              ·replace c145 := Bool.eq_false_iff.mpr c145
               subst c145
               have H1 : (some false) = some r := by rw [if_neg (show ¬ (false = true) by decide)] at H; exact H
               clear H
               have H := H1
               clear H1
               obtain rfl := Option.some.inj H
               have hnb163 := NB322_296.out
               have hnc163 := NB296_322.out
               have hnb164 := NB322_297.out
               have hnc164 := NB297_322.out
               have hnb165 := NB322_309.out
               have hnc165 := NB309_322.out
               have hnb166 := NB322_336.out
               have hnc166 := NB336_322.out
               obtain ⟨hcz167_0, hcz167_1, hcz167_2, hcz167_3, hcz167_4, hcz167_5, hcz167_6, hfz167_0, hfz167_1, hfz167_2, hfz167_3, hfz167_4, hfz167_5, hfz167_6⟩ := cells7 BK322.out
               go_wp2_with (first | ((with_reducible refine gate_callee (f := 21) rfl ?_); refine goesL_ (some 83) rfl rfl Try.func21 (by kernel_rfl) rfl #[.agg #[.int .i64 t312, .slice Ao84 t313.length co84, .bool t316, .int .i64 t317, .int .i64 t318, .int .i64 t319, .bool t320], .agg #[.int .i64 0, .slice none 0 0, .bool false, .int .i64 0, .int .i64 0, .int .i64 0, .bool false]] rfl (by (try simp only [List.map_toArray, List.map_cons, List.map_nil]); first | done | rfl | (simp only [List.length_drop, List.length_take]; rfl) | (go_simp; done) | (go_simp; rfl)) ?_; (refine (wherrykeep_Send.calls kj71 t312 _ _ t313 t316 t317 t318 t319 t320 0 _ _ ([] : List Int) false 0 0 0 false true _ ?side1 ?side2 ?side3 ?side4 A140.out).mono ?_); (case side1 => first | with_reducible exact (Kd.R_reads' HO_323001.out).2.2 | exact sC ((Kd.R_reads' HO_323001.out).2.2)); (case side2 => exact (Kd.R_reads' HO_323001.out).2.1); (case side3 => exact Kd.C_nil _ _); (case side4 => exact Nat.le_refl _); rintro e w168 ⟨rfl, hb⟩; refine ⟨_, rfl, ?_⟩; have n0_ := Aside0.mk (Kd.S_below (by first | with_reducible exact HO_10.out | exact sS HO_10.out) hb); have n1_ := Aside0.mk (bR HO_310001.out hb); have n2_ := Aside0.mk (bR HO_323001.out hb); have n3_ := Aside0.mk (bR HO_337001.out hb); have n4_ := Aside0.mk (bK BK296.out hb); have n5_ := Aside0.mk (bK BK297.out hb); have n6_ := Aside0.mk (bK BK309.out hb); have n7_ := Aside0.mk (bK BK322.out hb); have n8_ := Aside0.mk (bK BK336.out hb); have n9_ := Aside0.mk (below_step (by repeat (first | (with_reducible first | exact HB.out | apply b1 | apply b2 | apply b3 | refine below_set ?_ GE296.out | refine below_set ?_ GE297.out | refine below_set ?_ GE309.out | refine below_set ?_ GE322.out | refine below_set ?_ GE336.out) | exact HB.out)) hb); clear HO_10; clear HO_310001; clear HO_323001; clear HO_337001; clear BK296; clear BK297; clear BK309; clear BK322; clear BK336; clear HB; have HO_10 := n0_; have HO_310001 := n1_; have HO_323001 := n2_; have HO_337001 := n3_; have BK296 := n4_; have BK297 := n5_; have BK309 := n6_; have BK322 := n7_; have BK336 := n8_; have HB := n9_; clear n0_ n1_ n2_ n3_ n4_ n5_ n6_ n7_ n8_ n9_; (try clear hb); (try clear hb2); (try clear hk); (try clear hi); obtain ⟨Ao169, co169, eo169⟩ := Kd.S_slice HO_10.out; subst eo169; have hnb170 := NB336_296.out; have hnc170 := NB296_336.out; have hnb171 := NB336_297.out; have hnc171 := NB297_336.out; have hnb172 := NB336_309.out; have hnc172 := NB309_336.out; obtain ⟨hcz173_0, hcz173_1, hcz173_2, hcz173_3, hcz173_4, hcz173_5, hcz173_6, hfz173_0, hfz173_1, hfz173_2, hfz173_3, hfz173_4, hfz173_5, hfz173_6⟩ := cells7 BK336.out; have hnb174 := NB309_296.out; have hnc174 := NB296_309.out; have hnb175 := NB309_297.out; have hnc175 := NB297_309.out; obtain ⟨hcz176_0, hcz176_1, hcz176_2, hcz176_3, hcz176_4, hcz176_5, hcz176_6, hfz176_0, hfz176_1, hfz176_2, hfz176_3, hfz176_4, hfz176_5, hfz176_6⟩ := cells7 BK309.out) | (go_at_call 21; (with_reducible refine (wherrykeep_Send.calls kj71 t323 _ _ t324 t327 t328 t329 t330 t331 t299 _ _ t300 t303 t304 t305 t306 t307 false _ ?side1 ?side2 ?side3 ?side4 A144.out).mono ?_); (case side1 => first | with_reducible exact (Kd.R_reads' HO_337001.out).2.2 | exact sC ((Kd.R_reads' HO_337001.out).2.2)); (case side2 => exact (Kd.R_reads' HO_337001.out).2.1); (case side3 => first | with_reducible exact (Kd.R_reads' HO_310001.out).2.2 | exact sC ((Kd.R_reads' HO_310001.out).2.2)); (case side4 => exact (Kd.R_reads' HO_310001.out).2.1); rintro e w177 ⟨rfl, hb⟩; have n0_ := Aside0.mk (Kd.S_below (by first | with_reducible exact HO_10.out | exact sS HO_10.out) hb); have n1_ := Aside0.mk (bR HO_310001.out hb); have n2_ := Aside0.mk (bR HO_323001.out hb); have n3_ := Aside0.mk (bR HO_337001.out hb); have n4_ := Aside0.mk (bK BK296.out hb); have n5_ := Aside0.mk (bK BK297.out hb); have n6_ := Aside0.mk (bK BK309.out hb); have n7_ := Aside0.mk (bK BK322.out hb); have n8_ := Aside0.mk (bK BK336.out hb); have n9_ := Aside0.mk (below_step (by repeat (first | (with_reducible first | exact HB.out | apply b1 | apply b2 | apply b3 | refine below_set ?_ GE296.out | refine below_set ?_ GE297.out | refine below_set ?_ GE309.out | refine below_set ?_ GE322.out | refine below_set ?_ GE336.out) | exact HB.out)) hb); clear HO_10; clear HO_310001; clear HO_323001; clear HO_337001; clear BK296; clear BK297; clear BK309; clear BK322; clear BK336; clear HB; have HO_10 := n0_; have HO_310001 := n1_; have HO_323001 := n2_; have HO_337001 := n3_; have BK296 := n4_; have BK297 := n5_; have BK309 := n6_; have BK322 := n7_; have BK336 := n8_; have HB := n9_; clear n0_ n1_ n2_ n3_ n4_ n5_ n6_ n7_ n8_ n9_; (try clear hb); (try clear hb2); (try clear hk); (try clear hi)))
               go_ret
               exact ⟨by first | rfl | (simp [errW_none, errW_some] <;> rfl) | (simp [*, errW_none, errW_some] <;> rfl), by repeat (first | (with_reducible first | exact HB.out | apply b1 | apply b2 | apply b3 | refine below_set ?_ GE296.out | refine below_set ?_ GE297.out | refine below_set ?_ GE309.out | refine below_set ?_ GE322.out | refine below_set ?_ GE336.out) | exact HB.out)⟩
             ·rw [if_neg c143] at H
              have c143b0 : ((t332.length : Int) == 0) = false := beq_eq_false_iff_ne.mpr c143
              have c143b1 : ((t332.length : Int) != 0) = true := bne_iff_ne.mpr c143
              have c143b2 : ¬ (t332 = []) := fun h_ => c143 (by rw [h_]; rfl)
              obtain rfl := Option.some.inj H
              have hnb178 := NB322_296.out
              have hnc178 := NB296_322.out
              have hnb179 := NB322_297.out
              have hnc179 := NB297_322.out
              have hnb180 := NB322_309.out
              have hnc180 := NB309_322.out
              have hnb181 := NB322_336.out
              have hnc181 := NB336_322.out
              obtain ⟨hcz182_0, hcz182_1, hcz182_2, hcz182_3, hcz182_4, hcz182_5, hcz182_6, hfz182_0, hfz182_1, hfz182_2, hfz182_3, hfz182_4, hfz182_5, hfz182_6⟩ := cells7 BK322.out
              go_wp2_with (first | ((with_reducible refine gate_callee (f := 21) rfl ?_); refine goesL_ (some 83) rfl rfl Try.func21 (by kernel_rfl) rfl #[.agg #[.int .i64 t312, .slice Ao84 t313.length co84, .bool t316, .int .i64 t317, .int .i64 t318, .int .i64 t319, .bool t320], .agg #[.int .i64 0, .slice none 0 0, .bool false, .int .i64 0, .int .i64 0, .int .i64 0, .bool false]] rfl (by (try simp only [List.map_toArray, List.map_cons, List.map_nil]); first | done | rfl | (simp only [List.length_drop, List.length_take]; rfl) | (go_simp; done) | (go_simp; rfl)) ?_; (refine (wherrykeep_Send.calls kj71 t312 _ _ t313 t316 t317 t318 t319 t320 0 _ _ ([] : List Int) false 0 0 0 false true _ ?side1 ?side2 ?side3 ?side4 A140.out).mono ?_); (case side1 => first | with_reducible exact (Kd.R_reads' HO_323001.out).2.2 | exact sC ((Kd.R_reads' HO_323001.out).2.2)); (case side2 => exact (Kd.R_reads' HO_323001.out).2.1); (case side3 => exact Kd.C_nil _ _); (case side4 => exact Nat.le_refl _); rintro e w183 ⟨rfl, hb⟩; refine ⟨_, rfl, ?_⟩; have n0_ := Aside0.mk (Kd.S_below (by first | with_reducible exact HO_10.out | exact sS HO_10.out) hb); have n1_ := Aside0.mk (bR HO_310001.out hb); have n2_ := Aside0.mk (bR HO_323001.out hb); have n3_ := Aside0.mk (bR HO_337001.out hb); have n4_ := Aside0.mk (bK BK296.out hb); have n5_ := Aside0.mk (bK BK297.out hb); have n6_ := Aside0.mk (bK BK309.out hb); have n7_ := Aside0.mk (bK BK322.out hb); have n8_ := Aside0.mk (bK BK336.out hb); have n9_ := Aside0.mk (below_step (by repeat (first | (with_reducible first | exact HB.out | apply b1 | apply b2 | apply b3 | refine below_set ?_ GE296.out | refine below_set ?_ GE297.out | refine below_set ?_ GE309.out | refine below_set ?_ GE322.out | refine below_set ?_ GE336.out) | exact HB.out)) hb); clear HO_10; clear HO_310001; clear HO_323001; clear HO_337001; clear BK296; clear BK297; clear BK309; clear BK322; clear BK336; clear HB; have HO_10 := n0_; have HO_310001 := n1_; have HO_323001 := n2_; have HO_337001 := n3_; have BK296 := n4_; have BK297 := n5_; have BK309 := n6_; have BK322 := n7_; have BK336 := n8_; have HB := n9_; clear n0_ n1_ n2_ n3_ n4_ n5_ n6_ n7_ n8_ n9_; (try clear hb); (try clear hb2); (try clear hk); (try clear hi); obtain ⟨Ao184, co184, eo184⟩ := Kd.S_slice HO_10.out; subst eo184))
              go_ret
              exact ⟨by first | rfl | (simp [errW_none, errW_some] <;> rfl) | (simp [*, errW_none, errW_some] <;> rfl), by repeat (first | (with_reducible first | exact HB.out | apply b1 | apply b2 | apply b3 | refine below_set ?_ GE296.out | refine below_set ?_ GE297.out | refine below_set ?_ GE309.out | refine below_set ?_ GE322.out | refine below_set ?_ GE336.out) | exact HB.out)⟩
            ·rw [if_neg c142] at H
             have c142b0 : (t335 == 0) = false := beq_eq_false_iff_ne.mpr c142
             have c142b1 : (t335 != 0) = true := bne_iff_ne.mpr c142
             obtain rfl := Option.some.inj H
             have hnb185 := NB322_296.out
             have hnc185 := NB296_322.out
             have hnb186 := NB322_297.out
             have hnc186 := NB297_322.out
             have hnb187 := NB322_309.out
             have hnc187 := NB309_322.out
             have hnb188 := NB322_336.out
             have hnc188 := NB336_322.out
             obtain ⟨hcz189_0, hcz189_1, hcz189_2, hcz189_3, hcz189_4, hcz189_5, hcz189_6, hfz189_0, hfz189_1, hfz189_2, hfz189_3, hfz189_4, hfz189_5, hfz189_6⟩ := cells7 BK322.out
             go_wp2_with (first | ((with_reducible refine gate_callee (f := 21) rfl ?_); refine goesL_ (some 83) rfl rfl Try.func21 (by kernel_rfl) rfl #[.agg #[.int .i64 t312, .slice Ao84 t313.length co84, .bool t316, .int .i64 t317, .int .i64 t318, .int .i64 t319, .bool t320], .agg #[.int .i64 0, .slice none 0 0, .bool false, .int .i64 0, .int .i64 0, .int .i64 0, .bool false]] rfl (by (try simp only [List.map_toArray, List.map_cons, List.map_nil]); first | done | rfl | (simp only [List.length_drop, List.length_take]; rfl) | (go_simp; done) | (go_simp; rfl)) ?_; (refine (wherrykeep_Send.calls kj71 t312 _ _ t313 t316 t317 t318 t319 t320 0 _ _ ([] : List Int) false 0 0 0 false true _ ?side1 ?side2 ?side3 ?side4 A140.out).mono ?_); (case side1 => first | with_reducible exact (Kd.R_reads' HO_323001.out).2.2 | exact sC ((Kd.R_reads' HO_323001.out).2.2)); (case side2 => exact (Kd.R_reads' HO_323001.out).2.1); (case side3 => exact Kd.C_nil _ _); (case side4 => exact Nat.le_refl _); rintro e w190 ⟨rfl, hb⟩; refine ⟨_, rfl, ?_⟩; have n0_ := Aside0.mk (Kd.S_below (by first | with_reducible exact HO_10.out | exact sS HO_10.out) hb); have n1_ := Aside0.mk (bR HO_310001.out hb); have n2_ := Aside0.mk (bR HO_323001.out hb); have n3_ := Aside0.mk (bR HO_337001.out hb); have n4_ := Aside0.mk (bK BK296.out hb); have n5_ := Aside0.mk (bK BK297.out hb); have n6_ := Aside0.mk (bK BK309.out hb); have n7_ := Aside0.mk (bK BK322.out hb); have n8_ := Aside0.mk (bK BK336.out hb); have n9_ := Aside0.mk (below_step (by repeat (first | (with_reducible first | exact HB.out | apply b1 | apply b2 | apply b3 | refine below_set ?_ GE296.out | refine below_set ?_ GE297.out | refine below_set ?_ GE309.out | refine below_set ?_ GE322.out | refine below_set ?_ GE336.out) | exact HB.out)) hb); clear HO_10; clear HO_310001; clear HO_323001; clear HO_337001; clear BK296; clear BK297; clear BK309; clear BK322; clear BK336; clear HB; have HO_10 := n0_; have HO_310001 := n1_; have HO_323001 := n2_; have HO_337001 := n3_; have BK296 := n4_; have BK297 := n5_; have BK309 := n6_; have BK322 := n7_; have BK336 := n8_; have HB := n9_; clear n0_ n1_ n2_ n3_ n4_ n5_ n6_ n7_ n8_ n9_; (try clear hb); (try clear hb2); (try clear hk); (try clear hi)))
             go_ret
             exact ⟨by first | rfl | (simp [errW_none, errW_some] <;> rfl) | (simp [*, errW_none, errW_some] <;> rfl), by repeat (first | (with_reducible first | exact HB.out | apply b1 | apply b2 | apply b3 | refine below_set ?_ GE296.out | refine below_set ?_ GE297.out | refine below_set ?_ GE309.out | refine below_set ?_ GE322.out | refine below_set ?_ GE336.out) | exact HB.out)⟩
           ·replace c141 := Bool.eq_false_iff.mpr c141
            subst c141
            have H1 : (some false) = some r := by rw [if_neg (show ¬ (false = true) by decide)] at H; exact H
            clear H
            have H := H1
            clear H1
            obtain rfl := Option.some.inj H
            have hnb191 := NB322_296.out
            have hnc191 := NB296_322.out
            have hnb192 := NB322_297.out
            have hnc192 := NB297_322.out
            have hnb193 := NB322_309.out
            have hnc193 := NB309_322.out
            have hnb194 := NB322_336.out
            have hnc194 := NB336_322.out
            obtain ⟨hcz195_0, hcz195_1, hcz195_2, hcz195_3, hcz195_4, hcz195_5, hcz195_6, hfz195_0, hfz195_1, hfz195_2, hfz195_3, hfz195_4, hfz195_5, hfz195_6⟩ := cells7 BK322.out
            go_wp2_with (first | ((with_reducible refine gate_callee (f := 21) rfl ?_); refine goesL_ (some 83) rfl rfl Try.func21 (by kernel_rfl) rfl #[.agg #[.int .i64 t312, .slice Ao84 t313.length co84, .bool t316, .int .i64 t317, .int .i64 t318, .int .i64 t319, .bool t320], .agg #[.int .i64 0, .slice none 0 0, .bool false, .int .i64 0, .int .i64 0, .int .i64 0, .bool false]] rfl (by (try simp only [List.map_toArray, List.map_cons, List.map_nil]); first | done | rfl | (simp only [List.length_drop, List.length_take]; rfl) | (go_simp; done) | (go_simp; rfl)) ?_; (refine (wherrykeep_Send.calls kj71 t312 _ _ t313 t316 t317 t318 t319 t320 0 _ _ ([] : List Int) false 0 0 0 false false _ ?side1 ?side2 ?side3 ?side4 A140.out).mono ?_); (case side1 => first | with_reducible exact (Kd.R_reads' HO_323001.out).2.2 | exact sC ((Kd.R_reads' HO_323001.out).2.2)); (case side2 => exact (Kd.R_reads' HO_323001.out).2.1); (case side3 => exact Kd.C_nil _ _); (case side4 => exact Nat.le_refl _); rintro e w196 ⟨rfl, hb⟩; refine ⟨_, rfl, ?_⟩; have n0_ := Aside0.mk (Kd.S_below (by first | with_reducible exact HO_10.out | exact sS HO_10.out) hb); have n1_ := Aside0.mk (bR HO_310001.out hb); have n2_ := Aside0.mk (bR HO_323001.out hb); have n3_ := Aside0.mk (bR HO_337001.out hb); have n4_ := Aside0.mk (bK BK296.out hb); have n5_ := Aside0.mk (bK BK297.out hb); have n6_ := Aside0.mk (bK BK309.out hb); have n7_ := Aside0.mk (bK BK322.out hb); have n8_ := Aside0.mk (bK BK336.out hb); have n9_ := Aside0.mk (below_step (by repeat (first | (with_reducible first | exact HB.out | apply b1 | apply b2 | apply b3 | refine below_set ?_ GE296.out | refine below_set ?_ GE297.out | refine below_set ?_ GE309.out | refine below_set ?_ GE322.out | refine below_set ?_ GE336.out) | exact HB.out)) hb); clear HO_10; clear HO_310001; clear HO_323001; clear HO_337001; clear BK296; clear BK297; clear BK309; clear BK322; clear BK336; clear HB; have HO_10 := n0_; have HO_310001 := n1_; have HO_323001 := n2_; have HO_337001 := n3_; have BK296 := n4_; have BK297 := n5_; have BK309 := n6_; have BK322 := n7_; have BK336 := n8_; have HB := n9_; clear n0_ n1_ n2_ n3_ n4_ n5_ n6_ n7_ n8_ n9_; (try clear hb); (try clear hb2); (try clear hk); (try clear hi)))
            go_ret
            exact ⟨by first | rfl | (simp [errW_none, errW_some] <;> rfl) | (simp [*, errW_none, errW_some] <;> rfl), by repeat (first | (with_reducible first | exact HB.out | apply b1 | apply b2 | apply b3 | refine below_set ?_ GE296.out | refine below_set ?_ GE297.out | refine below_set ?_ GE309.out | refine below_set ?_ GE322.out | refine below_set ?_ GE336.out) | exact HB.out)⟩

end Go.Proofs.Ytlbajfhioebphaa.FA
