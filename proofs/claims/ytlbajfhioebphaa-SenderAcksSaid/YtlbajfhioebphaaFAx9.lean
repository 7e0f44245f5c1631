/- Functions of the program, each told as a plain Lean function, and that the program computes it: written by this session's own program. -/
import Derived.Test.YtlbajfhioebphaaFAx0
import Derived.Test.YtlbajfhioebphaaFAx1
import Derived.Test.YtlbajfhioebphaaFAx5
import Derived.Test.YtlbajfhioebphaaFAx7
import Derived.Test.YtlbajfhioebphaaFAx8
namespace Go.Proofs.Ytlbajfhioebphaa.FA
open Go.RowKit Go.Proofs.YtlbajfhioebphaaW.PrintWords Go.Proofs.YtlbajfhioebphaaW.PrintLast Go.Proofs.YtlbajfhioebphaaW.PrintMore
attribute [local go_sem] max2_int min2_int max_two min_two max_three min_three max_four min_four   -- for this text's walks alone
set_option linter.unusedVariables false
set_option linter.unusedSimpArgs false

/-! ### wherrylaw21_SenderAcks: function 8 -/
mutual
def wherrylaw21_SenderAcks.j0 : Nat → Int → Bool → Int → List Int → Bool → Int → Int → Int → Bool → Option (Bool)
 | 0, _, _, _, _, _, _, _, _, _ => none
 | k + 1, x1, x21, x266000, x266001, x266002, x266003, x266004, x266005, x266006 => if x21 = true then (some true) else ((sender_Hear.f k x266000 x266001 x266002 x266003 x266004 x266005 x266006 4 x266000 0 (wrap64 (Int.tmod (IntKind.u64.wrap (x1)) 8)) ([] : List Int)).bind fun bt267 => (wherrylaw21_SenderAcks.l0 k (wrap64 (Int.tmod (IntKind.u64.wrap (x1)) 8)) bt267.2.2.2.2.2.2.2 (-1) (wrap64 (x266003 + 1)) x266000 x266001 x266002 x266003 x266004 x266005 x266006 bt267.1 bt267.2.1 bt267.2.2.1 bt267.2.2.2.1 bt267.2.2.2.2.1 bt267.2.2.2.2.2.1 bt267.2.2.2.2.2.2.1))
def wherrylaw21_SenderAcks.l0 : Nat → Int → Int → Int → Int → Int → List Int → Bool → Int → Int → Int → Bool → Int → List Int → Bool → Int → Int → Int → Bool → Option (Bool)
 | 0, _, _, _, _, _, _, _, _, _, _, _, _, _, _, _, _, _, _ => none
 | k + 1, x1, x6, x7, x8, x266000, x266001, x266002, x266003, x266004, x266005, x266006, x278000, x278001, x278002, x278003, x278004, x278005, x278006 => if x8 ≤ x266004 then (wherrylaw21_SenderAcks.j2 k x1 x6 x7 x8 x266002 x266000 x266001 x266002 x266003 x266004 x266005 x266006 x278000 x278001 x278002 x278003 x278004 x278005 x278006) else (wherrylaw21_SenderAcks.j2 k x1 x6 x7 x8 false x266000 x266001 x266002 x266003 x266004 x266005 x266006 x278000 x278001 x278002 x278003 x278004 x278005 x278006)
def wherrylaw21_SenderAcks.j2 : Nat → Int → Int → Int → Int → Bool → Int → List Int → Bool → Int → Int → Int → Bool → Int → List Int → Bool → Int → Int → Int → Bool → Option (Bool)
 | 0, _, _, _, _, _, _, _, _, _, _, _, _, _, _, _, _, _, _, _ => none
 | k + 1, x1, x6, x7, x8, x45, x266000, x266001, x266002, x266003, x266004, x266005, x266006, x278000, x278001, x278002, x278003, x278004, x278005, x278006 => if x45 = true then (if (Int.tmod x8 8) = x1 then (wherrylaw21_SenderAcks.l0 k x1 x6 x8 (wrap64 (x8 + 1)) x266000 x266001 x266002 x266003 x266004 x266005 x266006 x278000 x278001 x278002 x278003 x278004 x278005 x278006) else (wherrylaw21_SenderAcks.l0 k x1 x6 x7 (wrap64 (x8 + 1)) x266000 x266001 x266002 x266003 x266004 x266005 x266006 x278000 x278001 x278002 x278003 x278004 x278005 x278006)) else (if x7 < 0 then (if x6 = 11 then ((wherrykeep_Send.f k x278000 x278001 x278002 x278003 x278004 x278005 x278006 0 ([] : List Int) false 0 0 0 false).bind fun t278 => (if t278 = true then ((wherrylaw21_wakes.f k).bind fun t279 => (some t279)) else (some false))) else (some false)) else (if x6 = 0 then (if x278003 = x7 then (if x278004 = x266004 then (if x278005 = 3 then (if x278002 = true then ((wherrylaw21_wakes.f k).bind fun t280 => (some t280)) else (some false)) else (some false)) else (some false)) else (some false)) else (some false)))
end
def wherrylaw21_SenderAcks.f (k : Nat) (a0_0 : Int) (l0_1 : List Int) (a0_2 : Bool) (a0_3 : Int) (a0_4 : Int) (a0_5 : Int) (a0_6 : Bool) (a1 : Int) : Option (Bool) := if (l0_1.length : Int) > 5100 then (wherrylaw21_SenderAcks.j0 k a1 true a0_0 l0_1 a0_2 a0_3 a0_4 a0_5 a0_6) else ((wherryref18_Send.f a0_0 l0_1 a0_2 a0_3 a0_4 a0_5 a0_6).bind fun t266 => (if t266 = true then (wherrylaw21_SenderAcks.j0 k a1 a0_6 a0_0 l0_1 a0_2 a0_3 a0_4 a0_5 a0_6) else (wherrylaw21_SenderAcks.j0 k a1 true a0_0 l0_1 a0_2 a0_3 a0_4 a0_5 a0_6)))
theorem wherrylaw21_SenderAcks.mono_l : ∀ k, (∀ y0 y1 y2 y3 y4 y5 y6 y7 y8, LeO (wherrylaw21_SenderAcks.j0 k y0 y1 y2 y3 y4 y5 y6 y7 y8) (wherrylaw21_SenderAcks.j0 (k + 1) y0 y1 y2 y3 y4 y5 y6 y7 y8)) ∧ (∀ y0 y1 y2 y3 y4 y5 y6 y7 y8 y9 y10 y11 y12 y13 y14 y15 y16 y17, LeO (wherrylaw21_SenderAcks.l0 k y0 y1 y2 y3 y4 y5 y6 y7 y8 y9 y10 y11 y12 y13 y14 y15 y16 y17) (wherrylaw21_SenderAcks.l0 (k + 1) y0 y1 y2 y3 y4 y5 y6 y7 y8 y9 y10 y11 y12 y13 y14 y15 y16 y17)) ∧ (∀ y0 y1 y2 y3 y4 y5 y6 y7 y8 y9 y10 y11 y12 y13 y14 y15 y16 y17 y18, LeO (wherrylaw21_SenderAcks.j2 k y0 y1 y2 y3 y4 y5 y6 y7 y8 y9 y10 y11 y12 y13 y14 y15 y16 y17 y18) (wherrylaw21_SenderAcks.j2 (k + 1) y0 y1 y2 y3 y4 y5 y6 y7 y8 y9 y10 y11 y12 y13 y14 y15 y16 y17 y18))
 | 0 => ⟨fun _ _ _ _ _ _ _ _ _ r h => by simp [wherrylaw21_SenderAcks.j0] at h, fun _ _ _ _ _ _ _ _ _ _ _ _ _ _ _ _ _ _ r h => by simp [wherrylaw21_SenderAcks.l0] at h, fun _ _ _ _ _ _ _ _ _ _ _ _ _ _ _ _ _ _ _ r h => by simp [wherrylaw21_SenderAcks.j2] at h⟩
 | k + 1 => by
  obtain ⟨ih0, ih1, ih2⟩ := wherrylaw21_SenderAcks.mono_l k
  refine ⟨?_, ?_, ?_⟩
  ·intro y0 y1 y2 y3 y4 y5 y6 y7 y8
   unfold wherrylaw21_SenderAcks.j0
   repeat' first
   | (with_reducible exact ih0 _ _ _ _ _ _ _ _ _)
   | (with_reducible exact ih1 _ _ _ _ _ _ _ _ _ _ _ _ _ _ _ _ _ _)
   | (with_reducible exact ih2 _ _ _ _ _ _ _ _ _ _ _ _ _ _ _ _ _ _ _)
   | (with_reducible exact sender_Hear.mono _ _ _ _ _ _ _ _ _ _ _ _ _)
   | (with_reducible exact wherrykeep_Send.mono _ _ _ _ _ _ _ _ _ _ _ _ _ _ _)
   | (with_reducible exact wherrylaw21_wakes.mono _)
   | (with_reducible exact LeO.refl _)
   | (with_reducible exact LeO.none _)
   | (with_reducible refine LeO.ite ?_ ?_)
   | (with_reducible refine LeO.bind ?_ (fun _ => ?_))
   | exact ih0 _ _ _ _ _ _ _ _ _
   | exact ih1 _ _ _ _ _ _ _ _ _ _ _ _ _ _ _ _ _ _
   | exact ih2 _ _ _ _ _ _ _ _ _ _ _ _ _ _ _ _ _ _ _
   | exact sender_Hear.mono _ _ _ _ _ _ _ _ _ _ _ _ _
   | exact wherrykeep_Send.mono _ _ _ _ _ _ _ _ _ _ _ _ _ _ _
   | exact wherrylaw21_wakes.mono _
   | exact LeO.none _
   | refine LeO.ite ?_ ?_
   | refine LeO.bind ?_ (fun _ => ?_)
  ·intro y0 y1 y2 y3 y4 y5 y6 y7 y8 y9 y10 y11 y12 y13 y14 y15 y16 y17
   unfold wherrylaw21_SenderAcks.l0
   repeat' first
   | (with_reducible exact ih0 _ _ _ _ _ _ _ _ _)
   | (with_reducible exact ih1 _ _ _ _ _ _ _ _ _ _ _ _ _ _ _ _ _ _)
   | (with_reducible exact ih2 _ _ _ _ _ _ _ _ _ _ _ _ _ _ _ _ _ _ _)
   | (with_reducible exact sender_Hear.mono _ _ _ _ _ _ _ _ _ _ _ _ _)
   | (with_reducible exact wherrykeep_Send.mono _ _ _ _ _ _ _ _ _ _ _ _ _ _ _)
   | (with_reducible exact wherrylaw21_wakes.mono _)
   | (with_reducible exact LeO.refl _)
   | (with_reducible exact LeO.none _)
   | (with_reducible refine LeO.ite ?_ ?_)
   | (with_reducible refine LeO.bind ?_ (fun _ => ?_))
   | exact ih0 _ _ _ _ _ _ _ _ _
   | exact ih1 _ _ _ _ _ _ _ _ _ _ _ _ _ _ _ _ _ _
   | exact ih2 _ _ _ _ _ _ _ _ _ _ _ _ _ _ _ _ _ _ _
   | exact sender_Hear.mono _ _ _ _ _ _ _ _ _ _ _ _ _
   | exact wherrykeep_Send.mono _ _ _ _ _ _ _ _ _ _ _ _ _ _ _
   | exact wherrylaw21_wakes.mono _
   | exact LeO.none _
   | refine LeO.ite ?_ ?_
   | refine LeO.bind ?_ (fun _ => ?_)
  ·intro y0 y1 y2 y3 y4 y5 y6 y7 y8 y9 y10 y11 y12 y13 y14 y15 y16 y17 y18
   unfold wherrylaw21_SenderAcks.j2
   repeat' first
   | (with_reducible exact ih0 _ _ _ _ _ _ _ _ _)
   | (with_reducible exact ih1 _ _ _ _ _ _ _ _ _ _ _ _ _ _ _ _ _ _)
   | (with_reducible exact ih2 _ _ _ _ _ _ _ _ _ _ _ _ _ _ _ _ _ _ _)
   | (with_reducible exact sender_Hear.mono _ _ _ _ _ _ _ _ _ _ _ _ _)
   | (with_reducible exact wherrykeep_Send.mono _ _ _ _ _ _ _ _ _ _ _ _ _ _ _)
   | (with_reducible exact wherrylaw21_wakes.mono _)
   | (with_reducible exact LeO.refl _)
   | (with_reducible exact LeO.none _)
   | (with_reducible refine LeO.ite ?_ ?_)
   | (with_reducible refine LeO.bind ?_ (fun _ => ?_))
   | exact ih0 _ _ _ _ _ _ _ _ _
   | exact ih1 _ _ _ _ _ _ _ _ _ _ _ _ _ _ _ _ _ _
   | exact ih2 _ _ _ _ _ _ _ _ _ _ _ _ _ _ _ _ _ _ _
   | exact sender_Hear.mono _ _ _ _ _ _ _ _ _ _ _ _ _
   | exact wherrykeep_Send.mono _ _ _ _ _ _ _ _ _ _ _ _ _ _ _
   | exact wherrylaw21_wakes.mono _
   | exact LeO.none _
   | refine LeO.ite ?_ ?_
   | refine LeO.bind ?_ (fun _ => ?_)
theorem wherrylaw21_SenderAcks.mono : ∀ a0 a1 a2 a3 a4 a5 a6 a7 k, LeO (wherrylaw21_SenderAcks.f k a0 a1 a2 a3 a4 a5 a6 a7) (wherrylaw21_SenderAcks.f (k + 1) a0 a1 a2 a3 a4 a5 a6 a7) := by
 intro a0 a1 a2 a3 a4 a5 a6 a7 k
 obtain ⟨ih0, ih1, ih2⟩ := wherrylaw21_SenderAcks.mono_l k
 unfold wherrylaw21_SenderAcks.f
 repeat' first
   | (with_reducible exact ih0 _ _ _ _ _ _ _ _ _)
   | (with_reducible exact ih1 _ _ _ _ _ _ _ _ _ _ _ _ _ _ _ _ _ _)
   | (with_reducible exact ih2 _ _ _ _ _ _ _ _ _ _ _ _ _ _ _ _ _ _ _)
   | (with_reducible exact sender_Hear.mono _ _ _ _ _ _ _ _ _ _ _ _ _)
   | (with_reducible exact wherrykeep_Send.mono _ _ _ _ _ _ _ _ _ _ _ _ _ _ _)
   | (with_reducible exact wherrylaw21_wakes.mono _)
   | (with_reducible exact LeO.refl _)
   | (with_reducible exact LeO.none _)
   | (with_reducible refine LeO.ite ?_ ?_)
   | (with_reducible refine LeO.bind ?_ (fun _ => ?_))
   | exact ih0 _ _ _ _ _ _ _ _ _
   | exact ih1 _ _ _ _ _ _ _ _ _ _ _ _ _ _ _ _ _ _
   | exact ih2 _ _ _ _ _ _ _ _ _ _ _ _ _ _ _ _ _ _ _
   | exact sender_Hear.mono _ _ _ _ _ _ _ _ _ _ _ _ _
   | exact wherrykeep_Send.mono _ _ _ _ _ _ _ _ _ _ _ _ _ _ _
   | exact wherrylaw21_wakes.mono _
   | exact LeO.none _
   | refine LeO.ite ?_ ?_
   | refine LeO.bind ?_ (fun _ => ?_)
set_option maxHeartbeats 8000000 in
set_option maxRecDepth 100000 in
theorem wherrylaw21_SenderAcks.calls (k : Nat) (a0_0 : Int) (A0_1 : Option Addr) (c0_1 : Nat) (l0_1 : List Int) (a0_2 : Bool) (a0_3 : Int) (a0_4 : Int) (a0_5 : Int) (a0_6 : Bool) (a1 : Int) (r : Bool) (w : World) (hr0_1 : Kd.C (Kd.int .u8) w A0_1 l0_1.length l0_1) (hc0_1 : l0_1.length ≤ c0_1) (h : wherrylaw21_SenderAcks.f k a0_0 l0_1 a0_2 a0_3 a0_4 a0_5 a0_6 a1 = some r) :
  Calls Try.prog 8 #[.agg #[.int .i64 a0_0, .slice A0_1 l0_1.length c0_1, .bool a0_2, .int .i64 a0_3, .int .i64 a0_4, .int .i64 a0_5, .bool a0_6], .int .i64 a1] w fun e w' => e = .returned (.bool r) ∧ Below w.heap.size w w' := by
 have hu24 := Try.underlying24
 have hu32 := Try.underlying32
 have HR0_1 := Aside0.mk hr0_1
 have HC0_1 := Aside0.mk hc0_1
 clear hr0_1 hc0_1
 have HB := Aside0.mk (Below.refl w.heap.size w)
 have H : (if (l0_1.length : Int) > 5100 then (wherrylaw21_SenderAcks.j0 k a1 true a0_0 l0_1 a0_2 a0_3 a0_4 a0_5 a0_6) else ((wherryref18_Send.f a0_0 l0_1 a0_2 a0_3 a0_4 a0_5 a0_6).bind fun t266 => (if t266 = true then (wherrylaw21_SenderAcks.j0 k a1 a0_6 a0_0 l0_1 a0_2 a0_3 a0_4 a0_5 a0_6) else (wherrylaw21_SenderAcks.j0 k a1 true a0_0 l0_1 a0_2 a0_3 a0_4 a0_5 a0_6)))) = some r := h
 clear h
 have HC3 := Aside0.mk H
 clear H
 go_enter Try.func8, Try.ntmps8
 go_upto_region 1 with (first | ((with_reducible refine gate_dst (N := 2) rfl ?_); refine box_event ?hg (N := 2) ?hd (cs := #[.int .i64 a0_0, .slice A0_1 l0_1.length c0_1, .bool a0_2, .int .i64 a0_3, .int .i64 a0_4, .int .i64 a0_5, .bool a0_6]) (t := 24) ?hr ?_; (case hd => rfl); (case hg => rfl); (case hr => first | (go_simp; done) | (go_simp; rfl)); intro gb265 hg w4 hbox hb; have n0_ := Aside0.mk (below_step (by first | with_reducible exact HB.out | exact sB HB.out) hb); have n1_ := Aside0.mk (hbox); have n2_ := Aside0.mk ((by rw [hg]; exact (below_size (by first | with_reducible exact HB.out | exact sB HB.out)) : w.heap.size ≤ gb265)); have n3_ := Aside0.mk ((by rw [hg]; exact (below_size (by first | with_reducible exact HB.out | exact sB HB.out)) : w.heap.size ≤ gb265)); clear HB; have HB := n0_; have BK265 := n1_; have GW265 := n2_; have GE265 := n3_; clear n0_ n1_ n2_ n3_; clear hb hbox hg))
 (try simp only [Act.put, List.setIfInBounds_toArray, List.set_cons_zero, List.set_cons_succ])
 go_cut [21] (fun v21 wc => ∃ (kq : Nat) (x21_2 : Bool), v21 = .bool x21_2 ∧ Aside0 (wherrylaw21_SenderAcks.j0 kq a1 x21_2 a0_0 l0_1 a0_2 a0_3 a0_4 a0_5 a0_6 = some r) ∧ Aside0 (kq ≤ k) ∧ Aside0 (wc.heap[gb265]? = some (.cells #[.int .i64 a0_0, (.slice A0_1 l0_1.length c0_1), .bool a0_2, .int .i64 a0_3, .int .i64 a0_4, .int .i64 a0_5, .bool a0_6] 24 (0, 0))) ∧ Aside0 (Below w.heap.size w wc))
 case first =>
  have H := HC3.out
  clear HC3
  by_cases c5 : (l0_1.length : Int) > 5100
  ·rw [if_pos c5] at H
   have c5b0 : decide (5100 < (l0_1.length : Int)) = true := decide_eq_true c5
   have c5b1 : decide (5100 < l0_1.length) = true := decide_eq_true (by omega)
   clear c5
   (first | rw [c5b0] | (simp only [i64_w, i32_w]; rw [c5b0]) | skip)
   have H' := Aside0.mk H
   clear H
   obtain ⟨hcz6_0, hcz6_1, hcz6_2, hcz6_3, hcz6_4, hcz6_5, hcz6_6, hfz6_0, hfz6_1, hfz6_2, hfz6_3, hfz6_4, hfz6_5, hfz6_6⟩ := cells7 BK265.out
   go_wp2
   go_meet
   case rel => exact ⟨_, (true), (by first | rfl | (simp; done) | (simp [*]; done)), H', ⟨by first | omega | exact Nat.le_refl _⟩, ⟨by (with_reducible repeat (first | refine k2 ?_ _ | refine k3 ?_ | refine k1 ?_ _)); exact BK265.out⟩, ⟨by repeat (first | (with_reducible first | exact HB.out | apply b1 | apply b2 | apply b3 | refine below_set ?_ GE265.out) | exact HB.out)⟩⟩
  ·rw [if_neg c5] at H
   have c5b0 : decide (5100 < (l0_1.length : Int)) = false := decide_eq_false c5
   have c5b1 : decide (5100 < l0_1.length) = false := decide_eq_false (by omega)
   clear c5
   (first | rw [c5b0] | (simp only [i64_w, i32_w]; rw [c5b0]) | skip)
   replace H := Option.bind_eq_some_iff.mp H
   obtain ⟨t266, A70, H⟩ := H
   replace H : (if t266 = true then (wherrylaw21_SenderAcks.j0 k a1 a0_6 a0_0 l0_1 a0_2 a0_3 a0_4 a0_5 a0_6) else (wherrylaw21_SenderAcks.j0 k a1 true a0_0 l0_1 a0_2 a0_3 a0_4 a0_5 a0_6)) = some r := H
   have A7 := Aside0.mk A70
   clear A70
   by_cases c8 : t266 = true
   ·subst c8
    have H1 : (wherrylaw21_SenderAcks.j0 k a1 a0_6 a0_0 l0_1 a0_2 a0_3 a0_4 a0_5 a0_6) = some r := by rw [if_pos rfl] at H; exact H
    clear H
    have H := H1
    clear H1
    have H' := Aside0.mk H
    clear H
    obtain ⟨hcz9_0, hcz9_1, hcz9_2, hcz9_3, hcz9_4, hcz9_5, hcz9_6, hfz9_0, hfz9_1, hfz9_2, hfz9_3, hfz9_4, hfz9_5, hfz9_6⟩ := cells7 BK265.out
    go_wp2_with (first | (go_at_call 10; (with_reducible refine (wherryref18_Send.calls a0_0 _ _ l0_1 a0_2 a0_3 a0_4 a0_5 a0_6 true _ ?side1 ?side2 A7.out).mono ?_); (case side1 => first | with_reducible exact (Kd.C_below HR0_1.out HB.out) | exact sC ((Kd.C_below HR0_1.out HB.out))); (case side2 => exact HC0_1.out); rintro e w10 ⟨rfl, hb⟩; have n0_ := Aside0.mk (bK BK265.out hb); have n1_ := Aside0.mk (below_step (by repeat (first | (with_reducible first | exact HB.out | apply b1 | apply b2 | apply b3 | refine below_set ?_ GE265.out) | exact HB.out)) hb); clear BK265; clear HB; have BK265 := n0_; have HB := n1_; clear n0_ n1_; (try clear hb); (try clear hb2); (try clear hk); (try clear hi); obtain ⟨hcz11_0, hcz11_1, hcz11_2, hcz11_3, hcz11_4, hcz11_5, hcz11_6, hfz11_0, hfz11_1, hfz11_2, hfz11_3, hfz11_4, hfz11_5, hfz11_6⟩ := cells7 BK265.out))
    go_meet
    case rel => exact ⟨_, (a0_6), (by first | rfl | (simp; done) | (simp [*]; done)), H', ⟨by first | omega | exact Nat.le_refl _⟩, ⟨by (with_reducible repeat (first | refine k2 ?_ _ | refine k3 ?_ | refine k1 ?_ _)); exact BK265.out⟩, ⟨by repeat (first | (with_reducible first | exact HB.out | apply b1 | apply b2 | apply b3 | refine below_set ?_ GE265.out) | exact HB.out)⟩⟩
   ·replace c8 := Bool.eq_false_iff.mpr c8
    subst c8
    have H1 : (wherrylaw21_SenderAcks.j0 k a1 true a0_0 l0_1 a0_2 a0_3 a0_4 a0_5 a0_6) = some r := by rw [if_neg (show ¬ (false = true) by decide)] at H; exact H
    clear H
    have H := H1
    clear H1
    have H' := Aside0.mk H
    clear H
    obtain ⟨hcz12_0, hcz12_1, hcz12_2, hcz12_3, hcz12_4, hcz12_5, hcz12_6, hfz12_0, hfz12_1, hfz12_2, hfz12_3, hfz12_4, hfz12_5, hfz12_6⟩ := cells7 BK265.out
    go_wp2_with (first | (go_at_call 10; (with_reducible refine (wherryref18_Send.calls a0_0 _ _ l0_1 a0_2 a0_3 a0_4 a0_5 a0_6 false _ ?side1 ?side2 A7.out).mono ?_); (case side1 => first | with_reducible exact (Kd.C_below HR0_1.out HB.out) | exact sC ((Kd.C_below HR0_1.out HB.out))); (case side2 => exact HC0_1.out); rintro e w13 ⟨rfl, hb⟩; have n0_ := Aside0.mk (bK BK265.out hb); have n1_ := Aside0.mk (below_step (by repeat (first | (with_reducible first | exact HB.out | apply b1 | apply b2 | apply b3 | refine below_set ?_ GE265.out) | exact HB.out)) hb); clear BK265; clear HB; have BK265 := n0_; have HB := n1_; clear n0_ n1_; (try clear hb); (try clear hb2); (try clear hk); (try clear hi)))
    go_meet
    case rel => exact ⟨_, (true), (by first | rfl | (simp; done) | (simp [*]; done)), H', ⟨by first | omega | exact Nat.le_refl _⟩, ⟨by (with_reducible repeat (first | refine k2 ?_ _ | refine k3 ?_ | refine k1 ?_ _)); exact BK265.out⟩, ⟨by repeat (first | (with_reducible first | exact HB.out | apply b1 | apply b2 | apply b3 | refine below_set ?_ GE265.out) | exact HB.out)⟩⟩
 case rest =>
  clear HC3
  try clear p2
  try clear c5
  try clear c5b0
  try clear c5b1
  try clear c8
  try clear hcz11_0
  try clear hcz11_1
  try clear hcz11_2
  try clear hcz11_3
  try clear hcz11_4
  try clear hcz11_5
  try clear hcz11_6
  try clear hcz12_0
  try clear hcz12_1
  try clear hcz12_2
  try clear hcz12_3
  try clear hcz12_4
  try clear hcz12_5
  try clear hcz12_6
  try clear hcz6_0
  try clear hcz6_1
  try clear hcz6_2
  try clear hcz6_3
  try clear hcz6_4
  try clear hcz6_5
  try clear hcz6_6
  try clear hcz9_0
  try clear hcz9_1
  try clear hcz9_2
  try clear hcz9_3
  try clear hcz9_4
  try clear hcz9_5
  try clear hcz9_6
  try clear hfz11_0
  try clear hfz11_1
  try clear hfz11_2
  try clear hfz11_3
  try clear hfz11_4
  try clear hfz11_5
  try clear hfz11_6
  try clear hfz12_0
  try clear hfz12_1
  try clear hfz12_2
  try clear hfz12_3
  try clear hfz12_4
  try clear hfz12_5
  try clear hfz12_6
  try clear hfz6_0
  try clear hfz6_1
  try clear hfz6_2
  try clear hfz6_3
  try clear hfz6_4
  try clear hfz6_5
  try clear hfz6_6
  try clear hfz9_0
  try clear hfz9_1
  try clear hfz9_2
  try clear hfz9_3
  try clear hfz9_4
  try clear hfz9_5
  try clear hfz9_6
  obtain ⟨kq, x21_2, rfl, HA, HJ2, BK265, HB⟩ := hcut
  cases kq with
  | zero => exact absurd HA.out (by simp [wherrylaw21_SenderAcks.j0])
  | succ kj2 =>
   have H := HA.out
   clear HA
   simp only [wherrylaw21_SenderAcks.j0] at H
   by_cases c14 : x21_2 = true
   ·subst c14
    have H1 : (some true) = some r := by rw [if_pos rfl] at H; exact H
    clear H
    have H := H1
    clear H1
    obtain rfl := Option.some.inj H
    go_wp2
    go_ret
    exact ⟨by first | rfl | (simp [errW_none, errW_some] <;> rfl) | (simp [*, errW_none, errW_some] <;> rfl), by repeat (first | (with_reducible first | exact HB.out | apply b1 | apply b2 | apply b3 | refine below_set ?_ GE265.out) | exact HB.out)⟩
   ·replace c14 := Bool.eq_false_iff.mpr c14
    subst c14
    have H1 : ((sender_Hear.f kj2 a0_0 l0_1 a0_2 a0_3 a0_4 a0_5 a0_6 4 a0_0 0 (wrap64 (Int.tmod (IntKind.u64.wrap (a1)) 8)) ([] : List Int)).bind fun bt267 => (wherrylaw21_SenderAcks.l0 kj2 (wrap64 (Int.tmod (IntKind.u64.wrap (a1)) 8)) bt267.2.2.2.2.2.2.2 (-1) (wrap64 (a0_3 + 1)) a0_0 l0_1 a0_2 a0_3 a0_4 a0_5 a0_6 bt267.1 bt267.2.1 bt267.2.2.1 bt267.2.2.2.1 bt267.2.2.2.2.1 bt267.2.2.2.2.2.1 bt267.2.2.2.2.2.2.1)) = some r := by rw [if_neg (show ¬ (false = true) by decide)] at H; exact H
    clear H
    have H := H1
    clear H1
    replace H := Option.bind_eq_some_iff.mp H
    obtain ⟨⟨t267, t268, t271, t272, t273, t274, t275, t276⟩, A150, H⟩ := H
    replace H : (wherrylaw21_SenderAcks.l0 kj2 (wrap64 (Int.tmod (IntKind.u64.wrap (a1)) 8)) t276 (-1) (wrap64 (a0_3 + 1)) a0_0 l0_1 a0_2 a0_3 a0_4 a0_5 a0_6 t267 t268 t271 t272 t273 t274 t275) = some r := H
    have A15 := Aside0.mk A150
    clear A150
    have H' := Aside0.mk H
    clear H
    obtain ⟨hcz16_0, hcz16_1, hcz16_2, hcz16_3, hcz16_4, hcz16_5, hcz16_6, hfz16_0, hfz16_1, hfz16_2, hfz16_3, hfz16_4, hfz16_5, hfz16_6⟩ := cells7 BK265.out
    go_wp2_with (first | ((with_reducible refine gate_callee (f := 16) rfl ?_); refine goesL_ (some 32) rfl rfl Try.func16 (by kernel_rfl) rfl #[.agg #[.int .i64 a0_0, .slice A0_1 l0_1.length c0_1, .bool a0_2, .int .i64 a0_3, .int .i64 a0_4, .int .i64 a0_5, .bool a0_6], .agg #[.int .i64 4, .int .i64 a0_0, .int .i64 0, .int .i64 (wrap64 (Int.tmod (IntKind.u64.wrap (a1)) 8)), .slice none 0 0]] rfl (by (try simp only [List.map_toArray, List.map_cons, List.map_nil]); first | done | rfl | (simp only [List.length_drop, List.length_take]; rfl) | (go_simp; done) | (go_simp; rfl)) ?_; (refine (sender_Hear.calls kj2 a0_0 _ _ l0_1 a0_2 a0_3 a0_4 a0_5 a0_6 4 a0_0 0 (wrap64 (Int.tmod (IntKind.u64.wrap (a1)) 8)) _ _ ([] : List Int) t267 t268 t271 t272 t273 t274 t275 t276 _ ?side1 ?side2 ?side3 ?side4 A15.out).mono ?_); (case side1 => first | with_reducible exact (Kd.C_below HR0_1.out HB.out) | exact sC ((Kd.C_below HR0_1.out HB.out))); (case side2 => exact HC0_1.out); (case side3 => exact Kd.C_nil _ _); (case side4 => exact Nat.le_refl _); rintro e w17 ⟨v269, rfl, ho0, hb⟩; refine ⟨_, rfl, ?_⟩; have n0_ := Aside0.mk (Kd.R_lower ho0 (below_size (by repeat (first | (with_reducible first | exact HB.out | apply b1 | apply b2 | apply b3 | refine below_set ?_ GE265.out) | exact HB.out)))); have n1_ := Aside0.mk (bK BK265.out hb); have n2_ := Aside0.mk (below_step (by repeat (first | (with_reducible first | exact HB.out | apply b1 | apply b2 | apply b3 | refine below_set ?_ GE265.out) | exact HB.out)) hb); clear BK265; clear HB; have HO270 := n0_; have BK265 := n1_; have HB := n2_; clear n0_ n1_ n2_; (try clear hb); (try clear hb2); (try clear hk); (try clear hi); (try clear ho0)) | ((with_reducible refine gate_dst (N := 5) rfl ?_); refine box_event ?hg (N := 5) ?hd (cs := #[.int .i64 0, .slice none 0 0, .bool false, .int .i64 0, .int .i64 0, .int .i64 0, .bool false]) (t := 24) ?hr ?_; (case hd => rfl); (case hg => rfl); (case hr => first | (go_simp; done) | (go_simp; rfl)); intro gb277 hg w18 hbox hb; have n0_ := Aside0.mk (bR HO270.out hb); have n1_ := Aside0.mk (bK BK265.out hb); have n2_ := Aside0.mk (below_step (by repeat (first | (with_reducible first | exact HB.out | apply b1 | apply b2 | apply b3 | refine below_set ?_ GE265.out) | exact HB.out)) hb); have n3_ := Aside0.mk (hbox); have n4_ := Aside0.mk ((by rw [hg]; exact (below_size (by repeat (first | (with_reducible first | exact HB.out | apply b1 | apply b2 | apply b3 | refine below_set ?_ GE265.out) | exact HB.out))) : w.heap.size ≤ gb277)); have n5_ := Aside0.mk ((by rw [hg]; exact (below_size (by repeat (first | (with_reducible first | exact HB.out | apply b1 | apply b2 | apply b3 | refine below_set ?_ GE265.out) | exact HB.out))) : w.heap.size ≤ gb277)); have n6_ := Aside0.mk ((by rw [hg]; exact Nat.ne_of_lt (blk_lt (g := gb265) (o := .cells #[.int .i64 a0_0, .slice A0_1 l0_1.length c0_1, .bool a0_2, .int .i64 a0_3, .int .i64 a0_4, .int .i64 a0_5, .bool a0_6] 24 (0, 0)) (by first | with_reducible exact BK265.out | exact sK BK265.out)) : gb265 ≠ gb277)); have n7_ := Aside0.mk ((by rw [hg]; exact Nat.ne_of_gt (blk_lt (g := gb265) (o := .cells #[.int .i64 a0_0, .slice A0_1 l0_1.length c0_1, .bool a0_2, .int .i64 a0_3, .int .i64 a0_4, .int .i64 a0_5, .bool a0_6] 24 (0, 0)) (by first | with_reducible exact BK265.out | exact sK BK265.out)) : gb277 ≠ gb265)); clear HO270; clear BK265; clear HB; have HO270 := n0_; have BK265 := n1_; have HB := n2_; have BK277 := n3_; have GW277 := n4_; have GE277 := n5_; have NB265_277 := n6_; have NB277_265 := n7_; clear n0_ n1_ n2_ n3_ n4_ n5_ n6_ n7_; clear hb hbox hg; have hnb19 := NB277_265.out; have hnc19 := NB265_277.out; obtain ⟨hcz20_0, hcz20_1, hcz20_2, hcz20_3, hcz20_4, hcz20_5, hcz20_6, hfz20_0, hfz20_1, hfz20_2, hfz20_3, hfz20_4, hfz20_5, hfz20_6⟩ := cells7 BK277.out; obtain ⟨Ao21, co21, eo21⟩ := Kd.R_slice HO270.out; subst eo21; obtain ⟨hcz22_0, hcz22_1, hcz22_2, hcz22_3, hcz22_4, hcz22_5, hcz22_6, hfz22_0, hfz22_1, hfz22_2, hfz22_3, hfz22_4, hfz22_5, hfz22_6⟩ := cells7 BK265.out))
    go_loopg [7, 8] kj2 (fun kq v7 v8 w' => ∃ (x7_2 : Int) (x8_2 : Int), v7 = .int .i64 x7_2 ∧ v8 = .int .i64 x8_2 ∧ Aside0 (wherrylaw21_SenderAcks.l0 kq (wrap64 (Int.tmod (IntKind.u64.wrap (a1)) 8)) t276 x7_2 x8_2 a0_0 l0_1 a0_2 a0_3 a0_4 a0_5 a0_6 t267 t268 t271 t272 t273 t274 t275 = some r) ∧ Aside0 (kq ≤ kj2) ∧ Aside0 (Kd.R (Kd.int .u8) 5 w' w.heap.size (fun _ => True) (.slice Ao21 t268.length co21) t268) ∧ Aside0 (w'.heap[gb265]? = some (.cells #[.int .i64 a0_0, (.slice A0_1 l0_1.length c0_1), .bool a0_2, .int .i64 a0_3, .int .i64 a0_4, .int .i64 a0_5, .bool a0_6] 24 (0, 0))) ∧ Aside0 (w'.heap[gb277]? = some (.cells #[.int .i64 t267, (.slice Ao21 t268.length co21), .bool t271, .int .i64 t272, .int .i64 t273, .int .i64 t274, .bool t275] 24 (0, 0))) ∧ Aside0 (Below w.heap.size w w'))
    case atStart => exact ⟨((-1)), (wrap64 (a0_3 + 1)), (by first | rfl | (simp; done) | (simp [*]; done)), (by first | rfl | (simp; done) | (simp [*]; done)), H', ⟨Nat.le_refl _⟩, ⟨by (with_reducible repeat (first | apply R1 | apply R2 | apply R3)); exact Kd.R_mono (Kd.R_far (p := ⟨gb277, 6, none⟩) (Kd.R_far (p := ⟨gb277, 5, none⟩) (Kd.R_far (p := ⟨gb277, 4, none⟩) (Kd.R_far (p := ⟨gb277, 3, none⟩) (Kd.R_far (p := ⟨gb277, 2, none⟩) (Kd.R_far (p := ⟨gb277, 1, none⟩) (Kd.R_far (p := ⟨gb277, 0, none⟩) (Kd.R_types HO270.out BK277.out (by decide)) (fun _ hk => hk.2) (.int .i64 t267)) (fun _ hk => hk.2) (.slice Ao21 t268.length co21)) (fun _ hk => hk.2) (.bool t271)) (fun _ hk => hk.2) (.int .i64 t272)) (fun _ hk => hk.2) (.int .i64 t273)) (fun _ hk => hk.2) (.int .i64 t274)) (fun _ hk => hk.2) (.bool t275)) (fun _ hk => trivial)⟩, ⟨by (with_reducible repeat (first | refine k2 ?_ _ | refine k3 ?_ | refine k1 ?_ _)); refine blk_far ?_ NB265_277.out _; (with_reducible repeat (first | refine k2 ?_ _ | refine k3 ?_ | refine k1 ?_ _)); refine blk_far ?_ NB265_277.out _; (with_reducible repeat (first | refine k2 ?_ _ | refine k3 ?_ | refine k1 ?_ _)); refine blk_far ?_ NB265_277.out _; (with_reducible repeat (first | refine k2 ?_ _ | refine k3 ?_ | refine k1 ?_ _)); refine blk_far ?_ NB265_277.out _; (with_reducible repeat (first | refine k2 ?_ _ | refine k3 ?_ | refine k1 ?_ _)); refine blk_far ?_ NB265_277.out _; (with_reducible repeat (first | refine k2 ?_ _ | refine k3 ?_ | refine k1 ?_ _)); refine blk_far ?_ NB265_277.out _; (with_reducible repeat (first | refine k2 ?_ _ | refine k3 ?_ | refine k1 ?_ _)); refine blk_far ?_ NB265_277.out _; (with_reducible repeat (first | refine k2 ?_ _ | refine k3 ?_ | refine k1 ?_ _)); exact BK265.out⟩, ⟨by (with_reducible repeat (first | refine k2 ?_ _ | refine k3 ?_ | refine k1 ?_ _)); refine blk_put (cs := #[.int .i64 t267, .slice Ao21 t268.length co21, .bool t271, .int .i64 t272, .int .i64 t273, .int .i64 t274, .bool false]) ?_ 6 _ rfl; (with_reducible repeat (first | refine k2 ?_ _ | refine k3 ?_ | refine k1 ?_ _)); refine blk_put (cs := #[.int .i64 t267, .slice Ao21 t268.length co21, .bool t271, .int .i64 t272, .int .i64 t273, .int .i64 0, .bool false]) ?_ 5 _ rfl; (with_reducible repeat (first | refine k2 ?_ _ | refine k3 ?_ | refine k1 ?_ _)); refine blk_put (cs := #[.int .i64 t267, .slice Ao21 t268.length co21, .bool t271, .int .i64 t272, .int .i64 0, .int .i64 0, .bool false]) ?_ 4 _ rfl; (with_reducible repeat (first | refine k2 ?_ _ | refine k3 ?_ | refine k1 ?_ _)); refine blk_put (cs := #[.int .i64 t267, .slice Ao21 t268.length co21, .bool t271, .int .i64 0, .int .i64 0, .int .i64 0, .bool false]) ?_ 3 _ rfl; (with_reducible repeat (first | refine k2 ?_ _ | refine k3 ?_ | refine k1 ?_ _)); refine blk_put (cs := #[.int .i64 t267, .slice Ao21 t268.length co21, .bool false, .int .i64 0, .int .i64 0, .int .i64 0, .bool false]) ?_ 2 _ rfl; (with_reducible repeat (first | refine k2 ?_ _ | refine k3 ?_ | refine k1 ?_ _)); refine blk_put (cs := #[.int .i64 t267, .slice none 0 0, .bool false, .int .i64 0, .int .i64 0, .int .i64 0, .bool false]) ?_ 1 _ rfl; (with_reducible repeat (first | refine k2 ?_ _ | refine k3 ?_ | refine k1 ?_ _)); refine blk_put (cs := #[.int .i64 0, .slice none 0 0, .bool false, .int .i64 0, .int .i64 0, .int .i64 0, .bool false]) ?_ 0 _ rfl; (with_reducible repeat (first | refine k2 ?_ _ | refine k3 ?_ | refine k1 ?_ _)); exact BK277.out⟩, ⟨by repeat (first | (with_reducible first | exact HB.out | apply b1 | apply b2 | apply b3 | refine below_set ?_ GE265.out | refine below_set ?_ GE277.out) | exact HB.out)⟩⟩
    case round =>
     clear H'
     try clear c1
     try clear p2
     try clear c5
     try clear c5b0
     try clear c5b1
     try clear p6
     try clear c8
     try clear c14
     try clear c16
     try clear c19
     try clear hcz11_0
     try clear hcz11_1
     try clear hcz11_2
     try clear hcz11_3
     try clear hcz11_4
     try clear hcz11_5
     try clear hcz11_6
     try clear hcz12_0
     try clear hcz12_1
     try clear hcz12_2
     try clear hcz12_3
     try clear hcz12_4
     try clear hcz12_5
     try clear hcz12_6
     try clear hcz16_0
     try clear hcz16_1
     try clear hcz16_2
     try clear hcz16_3
     try clear hcz16_4
     try clear hcz16_5
     try clear hcz16_6
     try clear hcz20_0
     try clear hcz20_1
     try clear hcz20_2
     try clear hcz20_3
     try clear hcz20_4
     try clear hcz20_5
     try clear hcz20_6
     try clear hcz22_0
     try clear hcz22_1
     try clear hcz22_2
     try clear hcz22_3
     try clear hcz22_4
     try clear hcz22_5
     try clear hcz22_6
     try clear hcz6_0
     try clear hcz6_1
     try clear hcz6_2
     try clear hcz6_3
     try clear hcz6_4
     try clear hcz6_5
     try clear hcz6_6
     try clear hcz9_0
     try clear hcz9_1
     try clear hcz9_2
     try clear hcz9_3
     try clear hcz9_4
     try clear hcz9_5
     try clear hcz9_6
     try clear hfz11_0
     try clear hfz11_1
     try clear hfz11_2
     try clear hfz11_3
     try clear hfz11_4
     try clear hfz11_5
     try clear hfz11_6
     try clear hfz12_0
     try clear hfz12_1
     try clear hfz12_2
     try clear hfz12_3
     try clear hfz12_4
     try clear hfz12_5
     try clear hfz12_6
     try clear hfz16_0
     try clear hfz16_1
     try clear hfz16_2
     try clear hfz16_3
     try clear hfz16_4
     try clear hfz16_5
     try clear hfz16_6
     try clear hfz20_0
     try clear hfz20_1
     try clear hfz20_2
     try clear hfz20_3
     try clear hfz20_4
     try clear hfz20_5
     try clear hfz20_6
     try clear hfz22_0
     try clear hfz22_1
     try clear hfz22_2
     try clear hfz22_3
     try clear hfz22_4
     try clear hfz22_5
     try clear hfz22_6
     try clear hfz6_0
     try clear hfz6_1
     try clear hfz6_2
     try clear hfz6_3
     try clear hfz6_4
     try clear hfz6_5
     try clear hfz6_6
     try clear hfz9_0
     try clear hfz9_1
     try clear hfz9_2
     try clear hfz9_3
     try clear hfz9_4
     try clear hfz9_5
     try clear hfz9_6
     try clear p2
     obtain ⟨x7_2, x8_2, rfl, rfl, HA, HK2, HO_278001, BK265, BK277, HB⟩ := hrel
     cases gk with
     | zero => exact absurd HA.out (by simp [wherrylaw21_SenderAcks.l0])
     | succ k2 =>
      have H := HA.out
      clear HA
      simp only [wherrylaw21_SenderAcks.l0] at H
      have HC23 := Aside0.mk H
      clear H
      go_upto_region 7 with (fail)
      go_cut [45] (fun v45 wc => ∃ (kq : Nat) (x45_22 : Bool), v45 = .bool x45_22 ∧ Aside0 (wherrylaw21_SenderAcks.j2 kq (wrap64 (Int.tmod (IntKind.u64.wrap (a1)) 8)) t276 x7_2 x8_2 x45_22 a0_0 l0_1 a0_2 a0_3 a0_4 a0_5 a0_6 t267 t268 t271 t272 t273 t274 t275 = some r) ∧ Aside0 (kq ≤ k2) ∧ Aside0 (Kd.R (Kd.int .u8) 5 wc w.heap.size (fun _ => True) (.slice Ao21 t268.length co21) t268) ∧ Aside0 (wc.heap[gb265]? = some (.cells #[.int .i64 a0_0, (.slice A0_1 l0_1.length c0_1), .bool a0_2, .int .i64 a0_3, .int .i64 a0_4, .int .i64 a0_5, .bool a0_6] 24 (0, 0))) ∧ Aside0 (wc.heap[gb277]? = some (.cells #[.int .i64 t267, (.slice Ao21 t268.length co21), .bool t271, .int .i64 t272, .int .i64 t273, .int .i64 t274, .bool t275] 24 (0, 0))) ∧ Aside0 (Below w.heap.size w wc))
      case first =>
       have H := HC23.out
       clear HC23
       by_cases c24 : x8_2 ≤ a0_4
       ·rw [if_pos c24] at H
        have c24b0 : decide (x8_2 ≤ a0_4) = true := decide_eq_true c24
        clear c24
        (first | rw [c24b0] | (simp only [i64_w, i32_w]; rw [c24b0]) | skip)
        have H' := Aside0.mk H
        clear H
        have hnb25 := NB265_277.out
        have hnc25 := NB277_265.out
        obtain ⟨hcz26_0, hcz26_1, hcz26_2, hcz26_3, hcz26_4, hcz26_5, hcz26_6, hfz26_0, hfz26_1, hfz26_2, hfz26_3, hfz26_4, hfz26_5, hfz26_6⟩ := cells7 BK265.out
        go_wp2
        go_meet
        case rel => exact ⟨_, (a0_2), (by first | rfl | (simp; done) | (simp [*]; done)), H', ⟨by have := HJ2.out; have := HK2.out; first | omega | exact Nat.le_refl _⟩, ⟨by first | with_reducible exact HO_278001.out | exact sR HO_278001.out⟩, ⟨by (with_reducible repeat (first | refine k2 ?_ _ | refine k3 ?_ | refine k1 ?_ _)); exact BK265.out⟩, ⟨by (with_reducible repeat (first | refine k2 ?_ _ | refine k3 ?_ | refine k1 ?_ _)); exact BK277.out⟩, ⟨by repeat (first | (with_reducible first | exact HB.out | apply b1 | apply b2 | apply b3 | refine below_set ?_ GE265.out | refine below_set ?_ GE277.out) | exact HB.out)⟩⟩
       ·rw [if_neg c24] at H
        have c24b0 : decide (x8_2 ≤ a0_4) = false := decide_eq_false c24
        clear c24
        (first | rw [c24b0] | (simp only [i64_w, i32_w]; rw [c24b0]) | skip)
        have H' := Aside0.mk H
        clear H
        have hnb27 := NB265_277.out
        have hnc27 := NB277_265.out
        obtain ⟨hcz28_0, hcz28_1, hcz28_2, hcz28_3, hcz28_4, hcz28_5, hcz28_6, hfz28_0, hfz28_1, hfz28_2, hfz28_3, hfz28_4, hfz28_5, hfz28_6⟩ := cells7 BK265.out
        go_wp2
        go_meet
        case rel => exact ⟨_, (false), (by first | rfl | (simp; done) | (simp [*]; done)), H', ⟨by have := HJ2.out; have := HK2.out; first | omega | exact Nat.le_refl _⟩, ⟨by first | with_reducible exact HO_278001.out | exact sR HO_278001.out⟩, ⟨by (with_reducible repeat (first | refine k2 ?_ _ | refine k3 ?_ | refine k1 ?_ _)); exact BK265.out⟩, ⟨by (with_reducible repeat (first | refine k2 ?_ _ | refine k3 ?_ | refine k1 ?_ _)); exact BK277.out⟩, ⟨by repeat (first | (with_reducible first | exact HB.out | apply b1 | apply b2 | apply b3 | refine below_set ?_ GE265.out | refine below_set ?_ GE277.out) | exact HB.out)⟩⟩
      case rest =>
       clear HC23
       try clear c1
       try clear c2
       try clear p2
       try clear c5
       try clear c5b0
       try clear c5b1
       try clear p6
       try clear c8
       try clear c14
       try clear c16
       try clear c19
       try clear c24
       try clear c24b0
       try clear c25
       try clear c27
       try clear hcz11_0
       try clear hcz11_1
       try clear hcz11_2
       try clear hcz11_3
       try clear hcz11_4
       try clear hcz11_5
       try clear hcz11_6
       try clear hcz12_0
       try clear hcz12_1
       try clear hcz12_2
       try clear hcz12_3
       try clear hcz12_4
       try clear hcz12_5
       try clear hcz12_6
       try clear hcz16_0
       try clear hcz16_1
       try clear hcz16_2
       try clear hcz16_3
       try clear hcz16_4
       try clear hcz16_5
       try clear hcz16_6
       try clear hcz20_0
       try clear hcz20_1
       try clear hcz20_2
       try clear hcz20_3
       try clear hcz20_4
       try clear hcz20_5
       try clear hcz20_6
       try clear hcz22_0
       try clear hcz22_1
       try clear hcz22_2
       try clear hcz22_3
       try clear hcz22_4
       try clear hcz22_5
       try clear hcz22_6
       try clear hcz26_0
       try clear hcz26_1
       try clear hcz26_2
       try clear hcz26_3
       try clear hcz26_4
       try clear hcz26_5
       try clear hcz26_6
       try clear hcz28_0
       try clear hcz28_1
       try clear hcz28_2
       try clear hcz28_3
       try clear hcz28_4
       try clear hcz28_5
       try clear hcz28_6
       try clear hcz6_0
       try clear hcz6_1
       try clear hcz6_2
       try clear hcz6_3
       try clear hcz6_4
       try clear hcz6_5
       try clear hcz6_6
       try clear hcz9_0
       try clear hcz9_1
       try clear hcz9_2
       try clear hcz9_3
       try clear hcz9_4
       try clear hcz9_5
       try clear hcz9_6
       try clear hfz11_0
       try clear hfz11_1
       try clear hfz11_2
       try clear hfz11_3
       try clear hfz11_4
       try clear hfz11_5
       try clear hfz11_6
       try clear hfz12_0
       try clear hfz12_1
       try clear hfz12_2
       try clear hfz12_3
       try clear hfz12_4
       try clear hfz12_5
       try clear hfz12_6
       try clear hfz16_0
       try clear hfz16_1
       try clear hfz16_2
       try clear hfz16_3
       try clear hfz16_4
       try clear hfz16_5
       try clear hfz16_6
       try clear hfz20_0
       try clear hfz20_1
       try clear hfz20_2
       try clear hfz20_3
       try clear hfz20_4
       try clear hfz20_5
       try clear hfz20_6
       try clear hfz22_0
       try clear hfz22_1
       try clear hfz22_2
       try clear hfz22_3
       try clear hfz22_4
       try clear hfz22_5
       try clear hfz22_6
       try clear hfz26_0
       try clear hfz26_1
       try clear hfz26_2
       try clear hfz26_3
       try clear hfz26_4
       try clear hfz26_5
       try clear hfz26_6
       try clear hfz28_0
       try clear hfz28_1
       try clear hfz28_2
       try clear hfz28_3
       try clear hfz28_4
       try clear hfz28_5
       try clear hfz28_6
       try clear hfz6_0
       try clear hfz6_1
       try clear hfz6_2
       try clear hfz6_3
       try clear hfz6_4
       try clear hfz6_5
       try clear hfz6_6
       try clear hfz9_0
       try clear hfz9_1
       try clear hfz9_2
       try clear hfz9_3
       try clear hfz9_4
       try clear hfz9_5
       try clear hfz9_6
       try clear p2
       try clear p6
       obtain ⟨kq, x45_22, rfl, HA, HJ22, HO_278001, BK265, BK277, HB⟩ := hcut
       cases kq with
       | zero => exact absurd HA.out (by simp [wherrylaw21_SenderAcks.j2])
       | succ kj22 =>
        have H := HA.out
        clear HA
        simp only [wherrylaw21_SenderAcks.j2] at H
        by_cases c29 : x45_22 = true
        ·subst c29
         have H1 : (if (Int.tmod x8_2 8) = (wrap64 (Int.tmod (IntKind.u64.wrap (a1)) 8)) then (wherrylaw21_SenderAcks.l0 kj22 (wrap64 (Int.tmod (IntKind.u64.wrap (a1)) 8)) t276 x8_2 (wrap64 (x8_2 + 1)) a0_0 l0_1 a0_2 a0_3 a0_4 a0_5 a0_6 t267 t268 t271 t272 t273 t274 t275) else (wherrylaw21_SenderAcks.l0 kj22 (wrap64 (Int.tmod (IntKind.u64.wrap (a1)) 8)) t276 x7_2 (wrap64 (x8_2 + 1)) a0_0 l0_1 a0_2 a0_3 a0_4 a0_5 a0_6 t267 t268 t271 t272 t273 t274 t275)) = some r := by rw [if_pos rfl] at H; exact H
         clear H
         have H := H1
         clear H1
         by_cases c30 : (Int.tmod x8_2 8) = (wrap64 (Int.tmod (IntKind.u64.wrap (a1)) 8))
         ·rw [if_pos c30] at H
          have c30b0 : ((Int.tmod x8_2 8) == (wrap64 (Int.tmod (IntKind.u64.wrap (a1)) 8))) = true := beq_iff_eq.mpr c30
          have c30b1 : ((Int.tmod x8_2 8) != (wrap64 (Int.tmod (IntKind.u64.wrap (a1)) 8))) = false := bne_eq_false_iff_eq.mpr c30
          clear c30
          have H' := Aside0.mk H
          clear H
          go_wp2
          go_roundg kj22
          case measure => have := HJ2.out; have := HK2.out; have := HJ22.out; omega
          case rel => exact ⟨(x8_2), (wrap64 (x8_2 + 1)), (by first | rfl | (simp; done) | (simp [*]; done)), (by first | rfl | (simp; done) | (simp [*]; done)), H', ⟨by have := HJ2.out; have := HK2.out; have := HJ22.out; omega⟩, ⟨by first | with_reducible exact HO_278001.out | exact sR HO_278001.out⟩, ⟨by (with_reducible repeat (first | refine k2 ?_ _ | refine k3 ?_ | refine k1 ?_ _)); exact BK265.out⟩, ⟨by (with_reducible repeat (first | refine k2 ?_ _ | refine k3 ?_ | refine k1 ?_ _)); exact BK277.out⟩, ⟨by repeat (first | (with_reducible first | exact HB.out | apply b1 | apply b2 | apply b3 | refine below_set ?_ GE265.out | refine below_set ?_ GE277.out) | exact HB.out)⟩⟩
         ·rw [if_neg c30] at H
          have c30b0 : ((Int.tmod x8_2 8) == (wrap64 (Int.tmod (IntKind.u64.wrap (a1)) 8))) = false := beq_eq_false_iff_ne.mpr c30
          have c30b1 : ((Int.tmod x8_2 8) != (wrap64 (Int.tmod (IntKind.u64.wrap (a1)) 8))) = true := bne_iff_ne.mpr c30
          have H' := Aside0.mk H
          clear H
          go_wp2
          go_roundg kj22
          case measure => have := HJ2.out; have := HK2.out; have := HJ22.out; omega
          case rel => exact ⟨(x7_2), (wrap64 (x8_2 + 1)), (by first | rfl | (simp; done) | (simp [*]; done)), (by first | rfl | (simp; done) | (simp [*]; done)), H', ⟨by have := HJ2.out; have := HK2.out; have := HJ22.out; omega⟩, ⟨by first | with_reducible exact HO_278001.out | exact sR HO_278001.out⟩, ⟨by (with_reducible repeat (first | refine k2 ?_ _ | refine k3 ?_ | refine k1 ?_ _)); exact BK265.out⟩, ⟨by (with_reducible repeat (first | refine k2 ?_ _ | refine k3 ?_ | refine k1 ?_ _)); exact BK277.out⟩, ⟨by repeat (first | (with_reducible first | exact HB.out | apply b1 | apply b2 | apply b3 | refine below_set ?_ GE265.out | refine below_set ?_ GE277.out) | exact HB.out)⟩⟩
        ·replace c29 := Bool.eq_false_iff.mpr c29
         subst c29
         have H1 : (if x7_2 < 0 then (if t276 = 11 then ((wherrykeep_Send.f kj22 t267 t268 t271 t272 t273 t274 t275 0 ([] : List Int) false 0 0 0 false).bind fun t278 => (if t278 = true then ((wherrylaw21_wakes.f kj22).bind fun t279 => (some t279)) else (some false))) else (some false)) else (if t276 = 0 then (if t272 = x7_2 then (if t273 = a0_4 then (if t274 = 3 then (if t271 = true then ((wherrylaw21_wakes.f kj22).bind fun t280 => (some t280)) else (some false)) else (some false)) else (some false)) else (some false)) else (some false))) = some r := by rw [if_neg (show ¬ (false = true) by decide)] at H; exact H
         clear H
         have H := H1
         clear H1
         by_cases c31 : x7_2 < 0
         ·rw [if_pos c31] at H
          have c31b0 : decide (x7_2 < 0) = true := decide_eq_true c31
          clear c31
          by_cases c32 : t276 = 11
          ·rw [if_pos c32] at H
           have c32b0 : (t276 == 11) = true := beq_iff_eq.mpr c32
           have c32b1 : (t276 != 11) = false := bne_eq_false_iff_eq.mpr c32
           clear c32
           replace H := Option.bind_eq_some_iff.mp H
           obtain ⟨t278, A330, H⟩ := H
           replace H : (if t278 = true then ((wherrylaw21_wakes.f kj22).bind fun t279 => (some t279)) else (some false)) = some r := H
           have A33 := Aside0.mk A330
           clear A330
           by_cases c34 : t278 = true
           ·subst c34
            have H1 : ((wherrylaw21_wakes.f kj22).bind fun t279 => (some t279)) = some r := by rw [if_pos rfl] at H; exact H
            clear H
            have H := H1
            clear H1
            replace H := Option.bind_eq_some_iff.mp H
            obtain ⟨t279, A350, H⟩ := H
            replace H : (some t279) = some r := H
            have A35 := Aside0.mk A350
            clear A350
            obtain rfl := Option.some.inj H
            have hnb36 := NB277_265.out
            have hnc36 := NB265_277.out
            obtain ⟨hcz37_0, hcz37_1, hcz37_2, hcz37_3, hcz37_4, hcz37_5, hcz37_6, hfz37_0, hfz37_1, hfz37_2, hfz37_3, hfz37_4, hfz37_5, hfz37_6⟩ := cells7 BK277.out
            go_wp2_with (first | (go_at_call 21; (refine (wherrykeep_Send.calls kj22 t267 _ _ t268 t271 t272 t273 t274 t275 0 _ _ ([] : List Int) false 0 0 0 false true _ ?side1 ?side2 ?side3 ?side4 A33.out).mono ?_); (case side1 => first | with_reducible exact (Kd.R_reads' HO_278001.out).2.2 | exact sC ((Kd.R_reads' HO_278001.out).2.2)); (case side2 => exact (Kd.R_reads' HO_278001.out).2.1); (case side3 => exact Kd.C_nil _ _); (case side4 => exact Nat.le_refl _); rintro e w38 ⟨rfl, hb⟩; have n0_ := Aside0.mk (bR HO_278001.out hb); have n1_ := Aside0.mk (bK BK265.out hb); have n2_ := Aside0.mk (bK BK277.out hb); have n3_ := Aside0.mk (below_step (by repeat (first | (with_reducible first | exact HB.out | apply b1 | apply b2 | apply b3 | refine below_set ?_ GE265.out | refine below_set ?_ GE277.out) | exact HB.out)) hb); clear HO_278001; clear BK265; clear BK277; clear HB; have HO_278001 := n0_; have BK265 := n1_; have BK277 := n2_; have HB := n3_; clear n0_ n1_ n2_ n3_; (try clear hb); (try clear hb2); (try clear hk); (try clear hi)) | (go_at_call 12; (with_reducible refine (wherrylaw21_wakes.calls kj22  t279 _ A35.out).mono ?_); rintro e w39 ⟨rfl, hb⟩; have n0_ := Aside0.mk (bR HO_278001.out hb); have n1_ := Aside0.mk (bK BK265.out hb); have n2_ := Aside0.mk (bK BK277.out hb); have n3_ := Aside0.mk (below_step (by repeat (first | (with_reducible first | exact HB.out | apply b1 | apply b2 | apply b3 | refine below_set ?_ GE265.out | refine below_set ?_ GE277.out) | exact HB.out)) hb); clear HO_278001; clear BK265; clear BK277; clear HB; have HO_278001 := n0_; have BK265 := n1_; have BK277 := n2_; have HB := n3_; clear n0_ n1_ n2_ n3_; (try clear hb); (try clear hb2); (try clear hk); (try clear hi)))
            go_ret
            exact ⟨by first | rfl | (simp [errW_none, errW_some] <;> rfl) | (simp [*, errW_none, errW_some] <;> rfl), by repeat (first | (with_reducible first | exact HB.out | apply b1 | apply b2 | apply b3 | refine below_set ?_ GE265.out | refine below_set ?_ GE277.out) | exact HB.out)⟩
           ·replace c34 := Bool.eq_false_iff.mpr c34
            subst c34
            have H1 : (some false) = some r := by rw [if_neg (show ¬ (false = true) by decide)] at H; exact H
            clear H
            have H := H1
            clear H1
            obtain rfl := Option.some.inj H
            have hnb40 := NB277_265.out
            have hnc40 := NB265_277.out
            obtain ⟨hcz41_0, hcz41_1, hcz41_2, hcz41_3, hcz41_4, hcz41_5, hcz41_6, hfz41_0, hfz41_1, hfz41_2, hfz41_3, hfz41_4, hfz41_5, hfz41_6⟩ := cells7 BK277.out
            go_wp2_with (first | (go_at_call 21; (refine (wherrykeep_Send.calls kj22 t267 _ _ t268 t271 t272 t273 t274 t275 0 _ _ ([] : List Int) false 0 0 0 false false _ ?side1 ?side2 ?side3 ?side4 A33.out).mono ?_); (case side1 => first | with_reducible exact (Kd.R_reads' HO_278001.out).2.2 | exact sC ((Kd.R_reads' HO_278001.out).2.2)); (case side2 => exact (Kd.R_reads' HO_278001.out).2.1); (case side3 => exact Kd.C_nil _ _); (case side4 => exact Nat.le_refl _); rintro e w42 ⟨rfl, hb⟩; have n0_ := Aside0.mk (bR HO_278001.out hb); have n1_ := Aside0.mk (bK BK265.out hb); have n2_ := Aside0.mk (bK BK277.out hb); have n3_ := Aside0.mk (below_step (by repeat (first | (with_reducible first | exact HB.out | apply b1 | apply b2 | apply b3 | refine below_set ?_ GE265.out | refine below_set ?_ GE277.out) | exact HB.out)) hb); clear HO_278001; clear BK265; clear BK277; clear HB; have HO_278001 := n0_; have BK265 := n1_; have BK277 := n2_; have HB := n3_; clear n0_ n1_ n2_ n3_; (try clear hb); (try clear hb2); (try clear hk); (try clear hi)))
            go_ret
            exact ⟨by first | rfl | (simp [errW_none, errW_some] <;> rfl) | (simp [*, errW_none, errW_some] <;> rfl), by repeat (first | (with_reducible first | exact HB.out | apply b1 | apply b2 | apply b3 | refine below_set ?_ GE265.out | refine below_set ?_ GE277.out) | exact HB.out)⟩
          ·rw [if_neg c32] at H
           have c32b0 : (t276 == 11) = false := beq_eq_false_iff_ne.mpr c32
           have c32b1 : (t276 != 11) = true := bne_iff_ne.mpr c32
           obtain rfl := Option.some.inj H
           go_wp2
           go_ret
           exact ⟨by first | rfl | (simp [errW_none, errW_some] <;> rfl) | (simp [*, errW_none, errW_some] <;> rfl), by repeat (first | (with_reducible first | exact HB.out | apply b1 | apply b2 | apply b3 | refine below_set ?_ GE265.out | refine below_set ?_ GE277.out) | exact HB.out)⟩
         ·rw [if_neg c31] at H
          have c31b0 : decide (x7_2 < 0) = false := decide_eq_false c31
          clear c31
          by_cases c43 : t276 = 0
          ·rw [if_pos c43] at H
           have c43b0 : (t276 == 0) = true := beq_iff_eq.mpr c43
           have c43b1 : (t276 != 0) = false := bne_eq_false_iff_eq.mpr c43
           clear c43
           by_cases c44 : t272 = x7_2
           ·rw [if_pos c44] at H
            have c44b0 : (t272 == x7_2) = true := beq_iff_eq.mpr c44
            have c44b1 : (t272 != x7_2) = false := bne_eq_false_iff_eq.mpr c44
            clear c44
            by_cases c45 : t273 = a0_4
            ·rw [if_pos c45] at H
             have c45b0 : (t273 == a0_4) = true := beq_iff_eq.mpr c45
             have c45b1 : (t273 != a0_4) = false := bne_eq_false_iff_eq.mpr c45
             clear c45
             by_cases c46 : t274 = 3
             ·rw [if_pos c46] at H
              have c46b0 : (t274 == 3) = true := beq_iff_eq.mpr c46
              have c46b1 : (t274 != 3) = false := bne_eq_false_iff_eq.mpr c46
              clear c46
              by_cases c47 : t271 = true
              ·subst c47
               have H1 : ((wherrylaw21_wakes.f kj22).bind fun t280 => (some t280)) = some r := by rw [if_pos rfl] at H; exact H
               clear H
               have H := H1
               clear H1
               replace H := Option.bind_eq_some_iff.mp H
               obtain ⟨t280, A480, H⟩ := H
               replace H : (some t280) = some r := H
               have A48 := Aside0.mk A480
               clear A480
               obtain rfl := Option.some.inj H
               have hnb49 := NB277_265.out
               have hnc49 := NB265_277.out
               obtain ⟨hcz50_0, hcz50_1, hcz50_2, hcz50_3, hcz50_4, hcz50_5, hcz50_6, hfz50_0, hfz50_1, hfz50_2, hfz50_3, hfz50_4, hfz50_5, hfz50_6⟩ := cells7 BK277.out
               obtain ⟨hcz51_0, hcz51_1, hcz51_2, hcz51_3, hcz51_4, hcz51_5, hcz51_6, hfz51_0, hfz51_1, hfz51_2, hfz51_3, hfz51_4, hfz51_5, hfz51_6⟩ := cells7 BK265.out
               go_wp2_with (first | (go_at_call 12; (with_reducible refine (wherrylaw21_wakes.calls kj22  t280 _ A48.out).mono ?_); rintro e w52 ⟨rfl, hb⟩; have n0_ := Aside0.mk (bR HO_278001.out hb); have n1_ := Aside0.mk (bK BK265.out hb); have n2_ := Aside0.mk (bK BK277.out hb); have n3_ := Aside0.mk (below_step (by repeat (first | (with_reducible first | exact HB.out | apply b1 | apply b2 | apply b3 | refine below_set ?_ GE265.out | refine below_set ?_ GE277.out) | exact HB.out)) hb); clear HO_278001; clear BK265; clear BK277; clear HB; have HO_278001 := n0_; have BK265 := n1_; have BK277 := n2_; have HB := n3_; clear n0_ n1_ n2_ n3_; (try clear hb); (try clear hb2); (try clear hk); (try clear hi)))
               go_ret
               exact ⟨by first | rfl | (simp [errW_none, errW_some] <;> rfl) | (simp [*, errW_none, errW_some] <;> rfl), by repeat (first | (with_reducible first | exact HB.out | apply b1 | apply b2 | apply b3 | refine below_set ?_ GE265.out | refine below_set ?_ GE277.out) | exact HB.out)⟩
              ·replace c47 := Bool.eq_false_iff.mpr c47
               subst c47
               have H1 : (some false) = some r := by rw [if_neg (show ¬ (false = true) by decide)] at H; exact H
               clear H
               have H := H1
               clear H1
               obtain rfl := Option.some.inj H
               have hnb53 := NB277_265.out
               have hnc53 := NB265_277.out
               obtain ⟨hcz54_0, hcz54_1, hcz54_2, hcz54_3, hcz54_4, hcz54_5, hcz54_6, hfz54_0, hfz54_1, hfz54_2, hfz54_3, hfz54_4, hfz54_5, hfz54_6⟩ := cells7 BK277.out
               obtain ⟨hcz55_0, hcz55_1, hcz55_2, hcz55_3, hcz55_4, hcz55_5, hcz55_6, hfz55_0, hfz55_1, hfz55_2, hfz55_3, hfz55_4, hfz55_5, hfz55_6⟩ := cells7 BK265.out
               go_wp2
               go_ret
               exact ⟨by first | rfl | (simp [errW_none, errW_some] <;> rfl) | (simp [*, errW_none, errW_some] <;> rfl), by repeat (first | (with_reducible first | exact HB.out | apply b1 | apply b2 | apply b3 | refine below_set ?_ GE265.out | refine below_set ?_ GE277.out) | exact HB.out)⟩
             ·rw [if_neg c46] at H
              have c46b0 : (t274 == 3) = false := beq_eq_false_iff_ne.mpr c46
              have c46b1 : (t274 != 3) = true := bne_iff_ne.mpr c46
              obtain rfl := Option.some.inj H
              have hnb56 := NB277_265.out
              have hnc56 := NB265_277.out
              obtain ⟨hcz57_0, hcz57_1, hcz57_2, hcz57_3, hcz57_4, hcz57_5, hcz57_6, hfz57_0, hfz57_1, hfz57_2, hfz57_3, hfz57_4, hfz57_5, hfz57_6⟩ := cells7 BK277.out
              obtain ⟨hcz58_0, hcz58_1, hcz58_2, hcz58_3, hcz58_4, hcz58_5, hcz58_6, hfz58_0, hfz58_1, hfz58_2, hfz58_3, hfz58_4, hfz58_5, hfz58_6⟩ := cells7 BK265.out
              go_wp2
              go_ret
              exact ⟨by first | rfl | (simp [errW_none, errW_some] <;> rfl) | (simp [*, errW_none, errW_some] <;> rfl), by repeat (first | (with_reducible first | exact HB.out | apply b1 | apply b2 | apply b3 | refine below_set ?_ GE265.out | refine below_set ?_ GE277.out) | exact HB.out)⟩
            ·rw [if_neg c45] at H
             have c45b0 : (t273 == a0_4) = false := beq_eq_false_iff_ne.mpr c45
             have c45b1 : (t273 != a0_4) = true := bne_iff_ne.mpr c45
             obtain rfl := Option.some.inj H
             have hnb59 := NB277_265.out
             have hnc59 := NB265_277.out
             obtain ⟨hcz60_0, hcz60_1, hcz60_2, hcz60_3, hcz60_4, hcz60_5, hcz60_6, hfz60_0, hfz60_1, hfz60_2, hfz60_3, hfz60_4, hfz60_5, hfz60_6⟩ := cells7 BK277.out
             obtain ⟨hcz61_0, hcz61_1, hcz61_2, hcz61_3, hcz61_4, hcz61_5, hcz61_6, hfz61_0, hfz61_1, hfz61_2, hfz61_3, hfz61_4, hfz61_5, hfz61_6⟩ := cells7 BK265.out
             go_wp2
             go_ret
             exact ⟨by first | rfl | (simp [errW_none, errW_some] <;> rfl) | (simp [*, errW_none, errW_some] <;> rfl), by repeat (first | (with_reducible first | exact HB.out | apply b1 | apply b2 | apply b3 | refine below_set ?_ GE265.out | refine below_set ?_ GE277.out) | exact HB.out)⟩
           ·rw [if_neg c44] at H
            have c44b0 : (t272 == x7_2) = false := beq_eq_false_iff_ne.mpr c44
            have c44b1 : (t272 != x7_2) = true := bne_iff_ne.mpr c44
            obtain rfl := Option.some.inj H
            have hnb62 := NB277_265.out
            have hnc62 := NB265_277.out
            obtain ⟨hcz63_0, hcz63_1, hcz63_2, hcz63_3, hcz63_4, hcz63_5, hcz63_6, hfz63_0, hfz63_1, hfz63_2, hfz63_3, hfz63_4, hfz63_5, hfz63_6⟩ := cells7 BK277.out
            go_wp2
            go_ret
            exact ⟨by first | rfl | (simp [errW_none, errW_some] <;> rfl) | (simp [*, errW_none, errW_some] <;> rfl), by repeat (first | (with_reducible first | exact HB.out | apply b1 | apply b2 | apply b3 | refine below_set ?_ GE265.out | refine below_set ?_ GE277.out) | exact HB.out)⟩
          ·rw [if_neg c43] at H
           have c43b0 : (t276 == 0) = false := beq_eq_false_iff_ne.mpr c43
           have c43b1 : (t276 != 0) = true := bne_iff_ne.mpr c43
           obtain rfl := Option.some.inj H
           go_wp2
           go_ret
           exact ⟨by first | rfl | (simp [errW_none, errW_some] <;> rfl) | (simp [*, errW_none, errW_some] <;> rfl), by repeat (first | (with_reducible first | exact HB.out | apply b1 | apply b2 | apply b3 | refine below_set ?_ GE265.out | refine below_set ?_ GE277.out) | exact HB.out)⟩

end Go.Proofs.Ytlbajfhioebphaa.FA
