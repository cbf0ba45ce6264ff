/- At every argument ShareOut of the program answers as ShareOut of the reference, before and after its answer is written over: no condition but the statement's own. -/
import Derived.Test.YtagkblgpaallbaaCFnExactShareOut0
import Derived.Test.YtagkblgpaallbaaCFnExactShareOut1
set_option linter.unusedVariables false
set_option linter.unusedSimpArgs false
namespace Go.Proofs.Ytagkblgpaallbaa.Print
open Go.RowKit Go.Proofs.YtagkblgpaallbaaW.PrintWords Go.Proofs.YtagkblgpaallbaaW.PrintLast Go.Proofs.YtagkblgpaallbaaW.PrintMore
attribute [local go_sem] max2_int min2_int max_two min_two max_three min_three max_four min_four   -- for this text's walks alone

/-! ### spec_l4Counts: function 82 -/
def spec_l4Counts.f (k : Nat) (l0 : List Int) (l1 : List Int) : Option (Bool) := (spec_l4Flow.f k l0).bind fun t101 => (if t101 = true then (if (l1.length : Int) = (l0.length : Int) then ((spec_l1All.f k l1 1 40).bind fun t102 => (if t102 = true then ((spec_l3Sum.f k l1).bind fun t103 => (some (decide (t103 ≤ 40)))) else (some false))) else (some false)) else (some false))
theorem spec_l4Counts.mono : ∀ a0 a1 k, LeO (spec_l4Counts.f k a0 a1) (spec_l4Counts.f (k + 1) a0 a1) := by
  intro a0 a1 k
  unfold spec_l4Counts.f
  repeat' first
      | (with_reducible exact spec_l1All.mono _ _ _ _)
      | (with_reducible exact spec_l3Sum.mono _ _)
      | (with_reducible exact spec_l4Flow.mono _ _)
      | (with_reducible exact LeO.refl _)
      | (with_reducible exact LeO.none _)
      | (with_reducible refine LeO.ite ?_ ?_)
      | (with_reducible refine LeO.bind ?_ (fun _ => ?_))
      | exact spec_l1All.mono _ _ _ _
      | exact spec_l3Sum.mono _ _
      | exact spec_l4Flow.mono _ _
      | exact LeO.none _
      | refine LeO.ite ?_ ?_
      | refine LeO.bind ?_ (fun _ => ?_)
set_option maxHeartbeats 8000000 in
set_option maxRecDepth 100000 in
theorem spec_l4Counts.calls (k : Nat) (A0 : Option Addr) (c0 : Nat) (l0 : List Int) (A1 : Option Addr) (c1 : Nat) (l1 : List Int) (r : Bool) (w : World) (hr0 : Kd.C (Kd.int .i64) w A0 l0.length l0) (hc0 : l0.length ≤ c0) (hr1 : Kd.C (Kd.int .i64) w A1 l1.length l1) (hc1 : l1.length ≤ c1) (h : spec_l4Counts.f k l0 l1 = some r) :
    Calls Try.prog 82 #[.slice A0 l0.length c0, .slice A1 l1.length c1] w fun e w' => e = .returned (.bool r) ∧ Drawn0 w w' := by
  have HR0 := Aside0.mk hr0
  have HC0 := Aside0.mk hc0
  clear hr0 hc0
  have HR1 := Aside0.mk hr1
  have HC1 := Aside0.mk hc1
  clear hr1 hc1
  have H : ((spec_l4Flow.f k l0).bind fun t101 => (if t101 = true then (if (l1.length : Int) = (l0.length : Int) then ((spec_l1All.f k l1 1 40).bind fun t102 => (if t102 = true then ((spec_l3Sum.f k l1).bind fun t103 => (some (decide (t103 ≤ 40)))) else (some false))) else (some false)) else (some false))) = some r := h
  clear h
  replace H := Option.bind_eq_some_iff.mp H
  obtain ⟨t101, A30, H⟩ := H
  replace H : (if t101 = true then (if (l1.length : Int) = (l0.length : Int) then ((spec_l1All.f k l1 1 40).bind fun t102 => (if t102 = true then ((spec_l3Sum.f k l1).bind fun t103 => (some (decide (t103 ≤ 40)))) else (some false))) else (some false)) else (some false)) = some r := H
  have A3 := Aside0.mk A30
  clear A30
  by_cases c4 : t101 = true
  ·subst c4
   have H1 : (if (l1.length : Int) = (l0.length : Int) then ((spec_l1All.f k l1 1 40).bind fun t102 => (if t102 = true then ((spec_l3Sum.f k l1).bind fun t103 => (some (decide (t103 ≤ 40)))) else (some false))) else (some false)) = some r := by rw [if_pos rfl] at H; exact H
   clear H
   have H := H1
   clear H1
   by_cases c5 : (l1.length : Int) = (l0.length : Int)
   ·rw [if_pos c5] at H
    have c5b0 : ((l1.length : Int) == (l0.length : Int)) = true := beq_iff_eq.mpr c5
    have c5b1 : ((l1.length : Int) != (l0.length : Int)) = false := bne_eq_false_iff_eq.mpr c5
    have c5b2 : (l1.length == l0.length) = true := by first | simpa using c5 | (simp at c5 ⊢; omega)
    clear c5
    replace H := Option.bind_eq_some_iff.mp H
    obtain ⟨t102, A60, H⟩ := H
    replace H : (if t102 = true then ((spec_l3Sum.f k l1).bind fun t103 => (some (decide (t103 ≤ 40)))) else (some false)) = some r := H
    have A6 := Aside0.mk A60
    clear A60
    by_cases c7 : t102 = true
    ·subst c7
     have H1 : ((spec_l3Sum.f k l1).bind fun t103 => (some (decide (t103 ≤ 40)))) = some r := by rw [if_pos rfl] at H; exact H
     clear H
     have H := H1
     clear H1
     replace H := Option.bind_eq_some_iff.mp H
     obtain ⟨t103, A80, H⟩ := H
     replace H : (some (decide (t103 ≤ 40))) = some r := H
     have A8 := Aside0.mk A80
     clear A80
     obtain rfl := Option.some.inj H
     go_enter Try.func82, Try.ntmps82
     go_wp2_with (first | ((with_reducible refine gate_callee (f := 153) rfl ?_); refine goesL_ (some 6) rfl rfl Try.func153 (by kernel_rfl) rfl #[.slice A0 l0.length c0] rfl (by (try simp only [List.map_toArray, List.map_cons, List.map_nil]); first | done | rfl | (simp only [List.length_drop, List.length_take]; rfl)) ?_; (with_reducible refine (spec_l4Flow.calls k _ _ l0 true _ ?side1 ?side2 A3.out).mono ?_); (case side1 => repeat (first | exact HR0.out | (with_reducible refine Kd.C_alloc ?_ _) | (with_reducible refine Kd.C_drewN ?_ _) | (with_reducible refine Kd.C_drew ?_))); (case side2 => exact HC0.out); rintro e w' ⟨rfl, ⟨nd, rfl⟩⟩; refine ⟨_, rfl, ?_⟩) | (go_at_call 151; (with_reducible refine (spec_l1All.calls k _ _ l1 1 40 true _ ?side1 ?side2 A6.out).mono ?_); (case side1 => repeat (first | exact HR1.out | (with_reducible refine Kd.C_alloc ?_ _) | (with_reducible refine Kd.C_drewN ?_ _) | (with_reducible refine Kd.C_drew ?_))); (case side2 => exact HC1.out); rintro e w' ⟨rfl, ⟨nd, rfl⟩⟩) | (go_at_call 154; (with_reducible refine (spec_l3Sum.calls k _ _ l1 t103 _ ?side1 ?side2 A8.out).mono ?_); (case side1 => repeat (first | exact HR1.out | (with_reducible refine Kd.C_alloc ?_ _) | (with_reducible refine Kd.C_drewN ?_ _) | (with_reducible refine Kd.C_drew ?_))); (case side2 => exact HC1.out); rintro e w' ⟨rfl, ⟨nd, rfl⟩⟩))
     go_ret
     exact ⟨by first | rfl | (simp; done) | (simp [*]; done), by repeat (first | exact Drawn0.refl _ | apply Drawn0.step)⟩
    ·replace c7 := Bool.eq_false_iff.mpr c7
     subst c7
     have H1 : (some false) = some r := by rw [if_neg (show ¬ (false = true) by decide)] at H; exact H
     clear H
     have H := H1
     clear H1
     obtain rfl := Option.some.inj H
     go_enter Try.func82, Try.ntmps82
     go_wp2_with (first | ((with_reducible refine gate_callee (f := 153) rfl ?_); refine goesL_ (some 6) rfl rfl Try.func153 (by kernel_rfl) rfl #[.slice A0 l0.length c0] rfl (by (try simp only [List.map_toArray, List.map_cons, List.map_nil]); first | done | rfl | (simp only [List.length_drop, List.length_take]; rfl)) ?_; (with_reducible refine (spec_l4Flow.calls k _ _ l0 true _ ?side1 ?side2 A3.out).mono ?_); (case side1 => repeat (first | exact HR0.out | (with_reducible refine Kd.C_alloc ?_ _) | (with_reducible refine Kd.C_drewN ?_ _) | (with_reducible refine Kd.C_drew ?_))); (case side2 => exact HC0.out); rintro e w' ⟨rfl, ⟨nd, rfl⟩⟩; refine ⟨_, rfl, ?_⟩) | (go_at_call 151; (with_reducible refine (spec_l1All.calls k _ _ l1 1 40 false _ ?side1 ?side2 A6.out).mono ?_); (case side1 => repeat (first | exact HR1.out | (with_reducible refine Kd.C_alloc ?_ _) | (with_reducible refine Kd.C_drewN ?_ _) | (with_reducible refine Kd.C_drew ?_))); (case side2 => exact HC1.out); rintro e w' ⟨rfl, ⟨nd, rfl⟩⟩))
     go_ret
     exact ⟨by first | rfl | (simp; done) | (simp [*]; done), by repeat (first | exact Drawn0.refl _ | apply Drawn0.step)⟩
   ·rw [if_neg c5] at H
    have c5b0 : ((l1.length : Int) == (l0.length : Int)) = false := beq_eq_false_iff_ne.mpr c5
    have c5b1 : ((l1.length : Int) != (l0.length : Int)) = true := bne_iff_ne.mpr c5
    have c5b2 : (l1.length == l0.length) = false := by first | simpa using c5 | (simp at c5 ⊢; omega)
    obtain rfl := Option.some.inj H
    go_enter Try.func82, Try.ntmps82
    go_wp2_with (first | ((with_reducible refine gate_callee (f := 153) rfl ?_); refine goesL_ (some 6) rfl rfl Try.func153 (by kernel_rfl) rfl #[.slice A0 l0.length c0] rfl (by (try simp only [List.map_toArray, List.map_cons, List.map_nil]); first | done | rfl | (simp only [List.length_drop, List.length_take]; rfl)) ?_; (with_reducible refine (spec_l4Flow.calls k _ _ l0 true _ ?side1 ?side2 A3.out).mono ?_); (case side1 => repeat (first | exact HR0.out | (with_reducible refine Kd.C_alloc ?_ _) | (with_reducible refine Kd.C_drewN ?_ _) | (with_reducible refine Kd.C_drew ?_))); (case side2 => exact HC0.out); rintro e w' ⟨rfl, ⟨nd, rfl⟩⟩; refine ⟨_, rfl, ?_⟩))
    go_ret
    exact ⟨by first | rfl | (simp; done) | (simp [*]; done), by repeat (first | exact Drawn0.refl _ | apply Drawn0.step)⟩
  ·replace c4 := Bool.eq_false_iff.mpr c4
   subst c4
   have H1 : (some false) = some r := by rw [if_neg (show ¬ (false = true) by decide)] at H; exact H
   clear H
   have H := H1
   clear H1
   obtain rfl := Option.some.inj H
   go_enter Try.func82, Try.ntmps82
   go_wp2_with (first | ((with_reducible refine gate_callee (f := 153) rfl ?_); refine goesL_ (some 6) rfl rfl Try.func153 (by kernel_rfl) rfl #[.slice A0 l0.length c0] rfl (by (try simp only [List.map_toArray, List.map_cons, List.map_nil]); first | done | rfl | (simp only [List.length_drop, List.length_take]; rfl)) ?_; (with_reducible refine (spec_l4Flow.calls k _ _ l0 false _ ?side1 ?side2 A3.out).mono ?_); (case side1 => repeat (first | exact HR0.out | (with_reducible refine Kd.C_alloc ?_ _) | (with_reducible refine Kd.C_drewN ?_ _) | (with_reducible refine Kd.C_drew ?_))); (case side2 => exact HC0.out); rintro e w' ⟨rfl, ⟨nd, rfl⟩⟩; refine ⟨_, rfl, ?_⟩))
   go_ret
   exact ⟨by first | rfl | (simp; done) | (simp [*]; done), by repeat (first | exact Drawn0.refl _ | apply Drawn0.step)⟩

end Go.Proofs.Ytagkblgpaallbaa.Print
namespace Go.Proofs.Ytagkblgpaallbaa.Print
open Go.RowKit Go.Proofs.YtagkblgpaallbaaW.PrintWords Go.Proofs.YtagkblgpaallbaaW.PrintLast Go.Proofs.YtagkblgpaallbaaW.PrintMore
attribute [local go_sem] max2_int min2_int max_two min_two max_three min_three max_four min_four   -- for this text's walks alone

/-! ### spec_NextFor: function 22 -/
def spec_NextFor.f (k : Nat) (l0 : List Int) (l1 : List Int) : Option (Int × Bool) := (spec_l4Counts.f k l0 l1).bind fun t101 => (if t101 = true then ((spec_l4Next.f k l0 l1).bind fun t102 => (some (t102, true))) else (some (0, false)))
theorem spec_NextFor.mono : ∀ a0 a1 k, LeO (spec_NextFor.f k a0 a1) (spec_NextFor.f (k + 1) a0 a1) := by
  intro a0 a1 k
  unfold spec_NextFor.f
  repeat' first
      | (with_reducible exact spec_l4Counts.mono _ _ _)
      | (with_reducible exact spec_l4Next.mono _ _ _)
      | (with_reducible exact LeO.refl _)
      | (with_reducible exact LeO.none _)
      | (with_reducible refine LeO.ite ?_ ?_)
      | (with_reducible refine LeO.bind ?_ (fun _ => ?_))
      | exact spec_l4Counts.mono _ _ _
      | exact spec_l4Next.mono _ _ _
      | exact LeO.none _
      | refine LeO.ite ?_ ?_
      | refine LeO.bind ?_ (fun _ => ?_)
set_option maxHeartbeats 8000000 in
set_option maxRecDepth 100000 in
theorem spec_NextFor.calls (k : Nat) (A0 : Option Addr) (c0 : Nat) (l0 : List Int) (A1 : Option Addr) (c1 : Nat) (l1 : List Int) (r1 : Int) (r2 : Bool) (w : World) (hr0 : Kd.C (Kd.int .i64) w A0 l0.length l0) (hc0 : l0.length ≤ c0) (hr1 : Kd.C (Kd.int .i64) w A1 l1.length l1) (hc1 : l1.length ≤ c1) (h : spec_NextFor.f k l0 l1 = some (r1, r2)) :
    Calls Try.prog 22 #[.slice A0 l0.length c0, .slice A1 l1.length c1] w fun e w' => e = .returned (.tuple #[.int .i64 r1, .bool r2]) ∧ Below w.heap.size w w' := by
  have HR0 := Aside0.mk hr0
  have HC0 := Aside0.mk hc0
  clear hr0 hc0
  have HR1 := Aside0.mk hr1
  have HC1 := Aside0.mk hc1
  clear hr1 hc1
  have HB := Aside0.mk (Below.refl w.heap.size w)
  have H : ((spec_l4Counts.f k l0 l1).bind fun t101 => (if t101 = true then ((spec_l4Next.f k l0 l1).bind fun t102 => (some (t102, true))) else (some (0, false)))) = some (r1, r2) := h
  clear h
  replace H := Option.bind_eq_some_iff.mp H
  obtain ⟨t101, A30, H⟩ := H
  replace H : (if t101 = true then ((spec_l4Next.f k l0 l1).bind fun t102 => (some (t102, true))) else (some (0, false))) = some (r1, r2) := H
  have A3 := Aside0.mk A30
  clear A30
  by_cases c4 : t101 = true
  ·subst c4
   have H1 : ((spec_l4Next.f k l0 l1).bind fun t102 => (some (t102, true))) = some (r1, r2) := by rw [if_pos rfl] at H; exact H
   clear H
   have H := H1
   clear H1
   replace H := Option.bind_eq_some_iff.mp H
   obtain ⟨t102, A50, H⟩ := H
   replace H : (some (t102, true)) = some (r1, r2) := H
   have A5 := Aside0.mk A50
   clear A50
   simp only [Option.some.injEq, Prod.mk.injEq] at H
   obtain ⟨rfl, rfl⟩ := H
   go_enter Try.func22, Try.ntmps22
   go_wp2_with (first | ((with_reducible refine gate_callee (f := 82) rfl ?_); refine goesL_ (some 8) rfl rfl Try.func82 (by kernel_rfl) rfl #[.slice A0 l0.length c0, .slice A1 l1.length c1] rfl (by (try simp only [List.map_toArray, List.map_cons, List.map_nil]); first | done | rfl | (simp only [List.length_drop, List.length_take]; rfl)) ?_; (with_reducible refine (spec_l4Counts.calls k _ _ l0 _ _ l1 true _ ?side1 ?side2 ?side3 ?side4 A3.out).mono ?_); (case side1 => repeat (first | exact HR0.out | (with_reducible refine Kd.C_alloc ?_ _) | (with_reducible refine Kd.C_drewN ?_ _) | (with_reducible refine Kd.C_drew ?_))); (case side2 => exact HC0.out); (case side3 => repeat (first | exact HR1.out | (with_reducible refine Kd.C_alloc ?_ _) | (with_reducible refine Kd.C_drewN ?_ _) | (with_reducible refine Kd.C_drew ?_))); (case side4 => exact HC1.out); rintro e w' ⟨rfl, ⟨nd, rfl⟩⟩; refine ⟨_, rfl, ?_⟩) | ((with_reducible refine gate_callee (f := 83) rfl ?_); refine goesL_ (some 12) rfl rfl Try.func83 (by kernel_rfl) rfl #[.slice A0 l0.length c0, .slice A1 l1.length c1] rfl (by (try simp only [List.map_toArray, List.map_cons, List.map_nil]); first | done | rfl | (simp only [List.length_drop, List.length_take]; rfl)) ?_; (with_reducible refine (spec_l4Next.calls k _ _ l0 _ _ l1 t102 _ ?side1 ?side2 ?side3 ?side4 A5.out).mono ?_); (case side1 => repeat (first | exact HR0.out | (with_reducible refine Kd.C_alloc ?_ _) | (with_reducible refine Kd.C_drewN ?_ _) | (with_reducible refine Kd.C_drew ?_))); (case side2 => exact HC0.out); (case side3 => repeat (first | exact HR1.out | (with_reducible refine Kd.C_alloc ?_ _) | (with_reducible refine Kd.C_drewN ?_ _) | (with_reducible refine Kd.C_drew ?_))); (case side4 => exact HC1.out); rintro e w6 ⟨rfl, hb⟩; refine ⟨_, rfl, ?_⟩; have n0_ := Aside0.mk (below_step (by repeat (first | (with_reducible first | exact HB.out | apply below_alloc | apply pw_below_drewN | apply below_drew1) | exact HB.out)) hb); clear HB; have HB := n0_; clear n0_; (try clear hb); (try clear hb2); (try clear hk); (try clear hi)))
   go_ret2
   exact ⟨by first | rfl | (simp [errW_none, errW_some] <;> rfl) | (simp [*, errW_none, errW_some] <;> rfl), by repeat (first | (with_reducible first | exact HB.out | apply below_alloc | apply pw_below_drewN | apply below_drew1) | exact HB.out)⟩
  ·replace c4 := Bool.eq_false_iff.mpr c4
   subst c4
   have H1 : (some (0, false)) = some (r1, r2) := by rw [if_neg (show ¬ (false = true) by decide)] at H; exact H
   clear H
   have H := H1
   clear H1
   simp only [Option.some.injEq, Prod.mk.injEq] at H
   obtain ⟨rfl, rfl⟩ := H
   go_enter Try.func22, Try.ntmps22
   go_wp2_with (first | ((with_reducible refine gate_callee (f := 82) rfl ?_); refine goesL_ (some 8) rfl rfl Try.func82 (by kernel_rfl) rfl #[.slice A0 l0.length c0, .slice A1 l1.length c1] rfl (by (try simp only [List.map_toArray, List.map_cons, List.map_nil]); first | done | rfl | (simp only [List.length_drop, List.length_take]; rfl)) ?_; (with_reducible refine (spec_l4Counts.calls k _ _ l0 _ _ l1 false _ ?side1 ?side2 ?side3 ?side4 A3.out).mono ?_); (case side1 => repeat (first | exact HR0.out | (with_reducible refine Kd.C_alloc ?_ _) | (with_reducible refine Kd.C_drewN ?_ _) | (with_reducible refine Kd.C_drew ?_))); (case side2 => exact HC0.out); (case side3 => repeat (first | exact HR1.out | (with_reducible refine Kd.C_alloc ?_ _) | (with_reducible refine Kd.C_drewN ?_ _) | (with_reducible refine Kd.C_drew ?_))); (case side4 => exact HC1.out); rintro e w' ⟨rfl, ⟨nd, rfl⟩⟩; refine ⟨_, rfl, ?_⟩))
   go_ret2
   exact ⟨by first | rfl | (simp [errW_none, errW_some] <;> rfl) | (simp [*, errW_none, errW_some] <;> rfl), by repeat (first | (with_reducible first | exact HB.out | apply below_alloc | apply pw_below_drewN | apply below_drew1) | exact HB.out)⟩

end Go.Proofs.Ytagkblgpaallbaa.Print
namespace Go.Proofs.Ytagkblgpaallbaa.Print
open Go.RowKit Go.Proofs.YtagkblgpaallbaaW.PrintWords Go.Proofs.YtagkblgpaallbaaW.PrintLast Go.Proofs.YtagkblgpaallbaaW.PrintMore
attribute [local go_sem] max2_int min2_int max_two min_two max_three min_three max_four min_four   -- for this text's walks alone

/-! ### spec_GoodFrac: function 102 -/
def spec_GoodFrac.f (k : Nat) (a0_0 : Int) (a0_1 : Int) : Option (Bool) := (spec_l1In.f a0_0 (-1000000000) 1000000000).bind fun t102 => (if t102 = true then ((spec_l1In.f a0_1 1 1000000000).bind fun t103 => (if t103 = true then ((spec_l1Gcd.f k a0_0 a0_1).bind fun t104 => (some (t104 == 1))) else (some false))) else (some false))
theorem spec_GoodFrac.mono : ∀ a0 a1 k, LeO (spec_GoodFrac.f k a0 a1) (spec_GoodFrac.f (k + 1) a0 a1) := by
  intro a0 a1 k
  unfold spec_GoodFrac.f
  repeat' first
      | (with_reducible exact spec_l1Gcd.mono _ _ _)
      | (with_reducible exact LeO.refl _)
      | (with_reducible exact LeO.none _)
      | (with_reducible refine LeO.ite ?_ ?_)
      | (with_reducible refine LeO.bind ?_ (fun _ => ?_))
      | exact spec_l1Gcd.mono _ _ _
      | exact LeO.none _
      | refine LeO.ite ?_ ?_
      | refine LeO.bind ?_ (fun _ => ?_)
set_option maxHeartbeats 8000000 in
set_option maxRecDepth 100000 in
theorem spec_GoodFrac.calls (k : Nat) (a0_0 : Int) (a0_1 : Int) (r : Bool) (w : World) (h : spec_GoodFrac.f k a0_0 a0_1 = some r) :
    Calls Try.prog 102 #[.agg #[.int .i64 a0_0, .int .i64 a0_1]] w fun e w' => e = .returned (.bool r) ∧ Below w.heap.size w w' := by
  have hu44 := Try.underlying44
  have HB := Aside0.mk (Below.refl w.heap.size w)
  have H : ((spec_l1In.f a0_0 (-1000000000) 1000000000).bind fun t102 => (if t102 = true then ((spec_l1In.f a0_1 1 1000000000).bind fun t103 => (if t103 = true then ((spec_l1Gcd.f k a0_0 a0_1).bind fun t104 => (some (t104 == 1))) else (some false))) else (some false))) = some r := h
  clear h
  replace H := Option.bind_eq_some_iff.mp H
  obtain ⟨t102, A20, H⟩ := H
  replace H : (if t102 = true then ((spec_l1In.f a0_1 1 1000000000).bind fun t103 => (if t103 = true then ((spec_l1Gcd.f k a0_0 a0_1).bind fun t104 => (some (t104 == 1))) else (some false))) else (some false)) = some r := H
  have A2 := Aside0.mk A20
  clear A20
  by_cases c3 : t102 = true
  ·subst c3
   have H1 : ((spec_l1In.f a0_1 1 1000000000).bind fun t103 => (if t103 = true then ((spec_l1Gcd.f k a0_0 a0_1).bind fun t104 => (some (t104 == 1))) else (some false))) = some r := by rw [if_pos rfl] at H; exact H
   clear H
   have H := H1
   clear H1
   replace H := Option.bind_eq_some_iff.mp H
   obtain ⟨t103, A40, H⟩ := H
   replace H : (if t103 = true then ((spec_l1Gcd.f k a0_0 a0_1).bind fun t104 => (some (t104 == 1))) else (some false)) = some r := H
   have A4 := Aside0.mk A40
   clear A40
   by_cases c5 : t103 = true
   ·subst c5
    have H1 : ((spec_l1Gcd.f k a0_0 a0_1).bind fun t104 => (some (t104 == 1))) = some r := by rw [if_pos rfl] at H; exact H
    clear H
    have H := H1
    clear H1
    replace H := Option.bind_eq_some_iff.mp H
    obtain ⟨t104, A60, H⟩ := H
    replace H : (some (t104 == 1)) = some r := H
    have A6 := Aside0.mk A60
    clear A60
    obtain rfl := Option.some.inj H
    go_enter Try.func102, Try.ntmps102
    go_wp2_with (first | ((with_reducible refine gate_dst (N := 1) rfl ?_); refine box_event ?hg (N := 1) ?hd (cs := #[.int .i64 a0_0, .int .i64 a0_1]) (t := 44) ?hr ?_; (case hd => rfl); (case hg => rfl); (case hr => first | (go_simp; done) | (go_simp; rfl)); intro gb101 hg w7 hbox hb; have n0_ := Aside0.mk (below_step (by repeat (first | (with_reducible first | exact HB.out | apply below_alloc | apply pw_below_drewN | apply below_drew1) | exact HB.out)) hb); have n1_ := Aside0.mk (hbox); have n2_ := Aside0.mk ((by rw [hg]; exact (below_size (by repeat (first | (with_reducible first | exact HB.out | apply below_alloc | apply pw_below_drewN | apply below_drew1) | exact HB.out))) : w.heap.size ≤ gb101)); have n3_ := Aside0.mk ((by rw [hg]; exact (below_size (by repeat (first | (with_reducible first | exact HB.out | apply below_alloc | apply pw_below_drewN | apply below_drew1) | exact HB.out))) : w.heap.size ≤ gb101)); clear HB; have HB := n0_; have BK101 := n1_; have GW101 := n2_; have GE101 := n3_; clear n0_ n1_ n2_ n3_; clear hb hbox hg; have hcz8_0 : w7.cell? ⟨gb101, 0, none⟩ = some (.int .i64 a0_0) := (blk_cell BK101.out 0).trans rfl; have hcz8_1 : w7.cell? ⟨gb101, 1, none⟩ = some (.int .i64 a0_1) := (blk_cell BK101.out 1).trans rfl; have hfz8_0 := blk_frozen BK101.out 0; have hfz8_1 := blk_frozen BK101.out 1) | ((with_reducible refine gate_callee (f := 159) rfl ?_); refine goesL_ (some 5) rfl rfl Try.func159 (by kernel_rfl) rfl #[.int .i64 a0_0, .int .i64 (-1000000000), .int .i64 1000000000] rfl (by (try simp only [List.map_toArray, List.map_cons, List.map_nil]); first | done | rfl | (simp only [List.length_drop, List.length_take]; rfl)) ?_; (with_reducible refine (spec_l1In.calls a0_0 (-1000000000) 1000000000 true _ A2.out).mono ?_); rintro e w' ⟨rfl, ⟨nd, rfl⟩⟩; refine ⟨_, rfl, ?_⟩) | (go_at_call 159; (with_reducible refine (spec_l1In.calls a0_1 1 1000000000 true _ A4.out).mono ?_); rintro e w' ⟨rfl, ⟨nd, rfl⟩⟩) | (go_at_call 164; (with_reducible refine (spec_l1Gcd.calls k a0_0 a0_1 t104 _ A6.out).mono ?_); rintro e w' ⟨rfl, ⟨nd, rfl⟩⟩))
    go_ret
    exact ⟨by first | rfl | (simp [errW_none, errW_some] <;> rfl) | (simp [*, errW_none, errW_some] <;> rfl), by repeat (first | (with_reducible first | exact HB.out | apply below_alloc | apply pw_below_drewN | apply below_drew1 | refine below_set ?_ GE101.out) | exact HB.out)⟩
   ·replace c5 := Bool.eq_false_iff.mpr c5
    subst c5
    have H1 : (some false) = some r := by rw [if_neg (show ¬ (false = true) by decide)] at H; exact H
    clear H
    have H := H1
    clear H1
    obtain rfl := Option.some.inj H
    go_enter Try.func102, Try.ntmps102
    go_wp2_with (first | ((with_reducible refine gate_dst (N := 1) rfl ?_); refine box_event ?hg (N := 1) ?hd (cs := #[.int .i64 a0_0, .int .i64 a0_1]) (t := 44) ?hr ?_; (case hd => rfl); (case hg => rfl); (case hr => first | (go_simp; done) | (go_simp; rfl)); intro gb101 hg w9 hbox hb; have n0_ := Aside0.mk (below_step (by repeat (first | (with_reducible first | exact HB.out | apply below_alloc | apply pw_below_drewN | apply below_drew1) | exact HB.out)) hb); have n1_ := Aside0.mk (hbox); have n2_ := Aside0.mk ((by rw [hg]; exact (below_size (by repeat (first | (with_reducible first | exact HB.out | apply below_alloc | apply pw_below_drewN | apply below_drew1) | exact HB.out))) : w.heap.size ≤ gb101)); have n3_ := Aside0.mk ((by rw [hg]; exact (below_size (by repeat (first | (with_reducible first | exact HB.out | apply below_alloc | apply pw_below_drewN | apply below_drew1) | exact HB.out))) : w.heap.size ≤ gb101)); clear HB; have HB := n0_; have BK101 := n1_; have GW101 := n2_; have GE101 := n3_; clear n0_ n1_ n2_ n3_; clear hb hbox hg; have hcz10_0 : w9.cell? ⟨gb101, 0, none⟩ = some (.int .i64 a0_0) := (blk_cell BK101.out 0).trans rfl; have hcz10_1 : w9.cell? ⟨gb101, 1, none⟩ = some (.int .i64 a0_1) := (blk_cell BK101.out 1).trans rfl; have hfz10_0 := blk_frozen BK101.out 0; have hfz10_1 := blk_frozen BK101.out 1) | ((with_reducible refine gate_callee (f := 159) rfl ?_); refine goesL_ (some 5) rfl rfl Try.func159 (by kernel_rfl) rfl #[.int .i64 a0_0, .int .i64 (-1000000000), .int .i64 1000000000] rfl (by (try simp only [List.map_toArray, List.map_cons, List.map_nil]); first | done | rfl | (simp only [List.length_drop, List.length_take]; rfl)) ?_; (with_reducible refine (spec_l1In.calls a0_0 (-1000000000) 1000000000 true _ A2.out).mono ?_); rintro e w' ⟨rfl, ⟨nd, rfl⟩⟩; refine ⟨_, rfl, ?_⟩) | (go_at_call 159; (with_reducible refine (spec_l1In.calls a0_1 1 1000000000 false _ A4.out).mono ?_); rintro e w' ⟨rfl, ⟨nd, rfl⟩⟩))
    go_ret
    exact ⟨by first | rfl | (simp [errW_none, errW_some] <;> rfl) | (simp [*, errW_none, errW_some] <;> rfl), by repeat (first | (with_reducible first | exact HB.out | apply below_alloc | apply pw_below_drewN | apply below_drew1 | refine below_set ?_ GE101.out) | exact HB.out)⟩
  ·replace c3 := Bool.eq_false_iff.mpr c3
   subst c3
   have H1 : (some false) = some r := by rw [if_neg (show ¬ (false = true) by decide)] at H; exact H
   clear H
   have H := H1
   clear H1
   obtain rfl := Option.some.inj H
   go_enter Try.func102, Try.ntmps102
   go_wp2_with (first | ((with_reducible refine gate_dst (N := 1) rfl ?_); refine box_event ?hg (N := 1) ?hd (cs := #[.int .i64 a0_0, .int .i64 a0_1]) (t := 44) ?hr ?_; (case hd => rfl); (case hg => rfl); (case hr => first | (go_simp; done) | (go_simp; rfl)); intro gb101 hg w11 hbox hb; have n0_ := Aside0.mk (below_step (by repeat (first | (with_reducible first | exact HB.out | apply below_alloc | apply pw_below_drewN | apply below_drew1) | exact HB.out)) hb); have n1_ := Aside0.mk (hbox); have n2_ := Aside0.mk ((by rw [hg]; exact (below_size (by repeat (first | (with_reducible first | exact HB.out | apply below_alloc | apply pw_below_drewN | apply below_drew1) | exact HB.out))) : w.heap.size ≤ gb101)); have n3_ := Aside0.mk ((by rw [hg]; exact (below_size (by repeat (first | (with_reducible first | exact HB.out | apply below_alloc | apply pw_below_drewN | apply below_drew1) | exact HB.out))) : w.heap.size ≤ gb101)); clear HB; have HB := n0_; have BK101 := n1_; have GW101 := n2_; have GE101 := n3_; clear n0_ n1_ n2_ n3_; clear hb hbox hg; have hcz12_0 : w11.cell? ⟨gb101, 0, none⟩ = some (.int .i64 a0_0) := (blk_cell BK101.out 0).trans rfl; have hcz12_1 : w11.cell? ⟨gb101, 1, none⟩ = some (.int .i64 a0_1) := (blk_cell BK101.out 1).trans rfl; have hfz12_0 := blk_frozen BK101.out 0; have hfz12_1 := blk_frozen BK101.out 1) | ((with_reducible refine gate_callee (f := 159) rfl ?_); refine goesL_ (some 5) rfl rfl Try.func159 (by kernel_rfl) rfl #[.int .i64 a0_0, .int .i64 (-1000000000), .int .i64 1000000000] rfl (by (try simp only [List.map_toArray, List.map_cons, List.map_nil]); first | done | rfl | (simp only [List.length_drop, List.length_take]; rfl)) ?_; (with_reducible refine (spec_l1In.calls a0_0 (-1000000000) 1000000000 false _ A2.out).mono ?_); rintro e w' ⟨rfl, ⟨nd, rfl⟩⟩; refine ⟨_, rfl, ?_⟩))
   go_ret
   exact ⟨by first | rfl | (simp [errW_none, errW_some] <;> rfl) | (simp [*, errW_none, errW_some] <;> rfl), by repeat (first | (with_reducible first | exact HB.out | apply below_alloc | apply pw_below_drewN | apply below_drew1 | refine below_set ?_ GE101.out) | exact HB.out)⟩

end Go.Proofs.Ytagkblgpaallbaa.Print
namespace Go.Proofs.Ytagkblgpaallbaa.Pure
open Go.RowKit Go.Proofs.Ytagkblgpaallbaa.Print Go.Proofs.YtagkblgpaallbaaW.PrintWords Go.Proofs.YtagkblgpaallbaaW.PrintLast Go.Proofs.YtagkblgpaallbaaW.PrintMore

/-! Fractions: the greatest common divisor, lowest terms. -/
theorem natAbs_tmod (a b : Int) : (Int.tmod a b).natAbs = a.natAbs % b.natAbs := by
  rw [Int.natAbs_tmod]
theorem tmod_bounds (a b : Int) (hb : b ≠ 0) : -(b.natAbs : Int) < Int.tmod a b ∧ Int.tmod a b < b.natAbs := by
  have h := natAbs_tmod a b
  have h2 : a.natAbs % b.natAbs < b.natAbs := Nat.mod_lt _ (Int.natAbs_pos.mpr hb)
  omega
theorem gcd_step (a b : Int) : Int.gcd b (Int.tmod a b) = Int.gcd a b := by
  unfold Int.gcd
  rw [natAbs_tmod, Nat.gcd_comm b.natAbs, ← Nat.gcd_rec, Nat.gcd_comm]
theorem gcd_le (a b m : Int) (h : a ≠ 0 ∨ b ≠ 0) (ha : -m ≤ a ∧ a ≤ m) (hb : -m ≤ b ∧ b ≤ m) : 1 ≤ (Int.gcd a b : Int) ∧ (Int.gcd a b : Int) ≤ m := by
  have hpos : 0 < Int.gcd a b := by
    rcases Nat.eq_zero_or_pos (Int.gcd a b) with h0 | h0
    · rw [Int.gcd_eq_zero_iff] at h0; omega
    · exact h0
  refine ⟨by omega, ?_⟩
  rcases h with h | h
  · have := Nat.le_of_dvd (Int.natAbs_pos.mpr h) (Int.gcd_dvd_natAbs_left a b); omega
  · have := Nat.le_of_dvd (Int.natAbs_pos.mpr h) (Int.gcd_dvd_natAbs_right a b); omega

theorem spec_l1Abs_eq (a : Int) (h : -9223372036854775808 < a ∧ a < 9223372036854775808) : spec_l1Abs.f a = some (a.natAbs : Int) := by
  unfold spec_l1Abs.f
  by_cases h0 : a < 0
  · rw [if_pos h0, w64 (by omega) (by omega)]; congr 1; omega
  · rw [if_neg h0]; congr 1; omega
theorem spec_l1Gcd_ev (a b : Int) (ha : -9223372036854775808 < a ∧ a < 9223372036854775808) (hb : -9223372036854775808 < b ∧ b < 9223372036854775808) : Ev (fun k => spec_l1Gcd.f k a b) (Int.gcd a b : Int) := by
  unfold spec_l1Gcd.f
  refine Ev.bind0 (spec_l1Abs_eq a ha) (Ev.bind0 (spec_l1Abs_eq b hb) ?_)
  have key : ∀ (n m : Nat), Ev (fun k => spec_l1Gcd.l0 k (m : Int) (n : Int)) (Nat.gcd m n : Int) := by
    intro n
    induction n using Nat.strongRecOn with
    | _ n ih =>
      intro m
      rcases Nat.eq_zero_or_pos n with h0 | h0
      · subst h0
        refine Ev.step0 (Ev.of_eq fun _ => rfl) fun k => ?_
        simp only [spec_l1Gcd.l0]; rw [if_neg (by omega)]; simp
      · have h1 := ih (m % n) (Nat.mod_lt _ h0) n
        refine Ev.to (Ev.step0 h1 fun k => ?_) ?_
        · simp only [spec_l1Gcd.l0]; rw [if_pos (by omega), if_neg (by omega)]; rfl
        · rw [Nat.gcd_comm n, ← Nat.gcd_rec, Nat.gcd_comm]
  exact key b.natAbs a.natAbs

theorem mx_abs (a : Int) (h : -9223372036854775808 < a ∧ a < 9223372036854775808) : mx a (wrap64 (-a)) = (a.natAbs : Int) := by
  rw [w64 (by omega) (by omega)]; unfold mx; split <;> omega
theorem impl_divisor_ev (a b : Int) (ha : -9223372036854775808 < a ∧ a < 9223372036854775808) (hb : -9223372036854775808 < b ∧ b < 9223372036854775808) : Ev (fun k => impl_divisor.f k a b) (Int.gcd a b : Int) := by
  unfold impl_divisor.f
  have key : ∀ (n : Nat) (a b : Int), b.natAbs = n → (-9223372036854775808 < a ∧ a < 9223372036854775808) → (-9223372036854775808 < b ∧ b < 9223372036854775808) → Ev (fun k => impl_divisor.l0 k a b) (Int.gcd a b : Int) := by
    intro n
    induction n using Nat.strongRecOn with
    | _ n ih =>
      intro a b hn ha hb
      by_cases h0 : b = 0
      · subst h0
        refine Ev.step0 (Ev.of_eq fun _ => rfl) fun k => ?_
        simp only [impl_divisor.l0]; rw [if_true, mx_abs a ha]; simp
      · have hm := tmod_bounds a b h0
        have h1 := ih (Int.tmod a b).natAbs (by omega) b (Int.tmod a b) rfl hb (by omega)
        refine Ev.to (Ev.step0 h1 fun k => ?_) (by rw [gcd_step])
        simp only [impl_divisor.l0]; rw [if_neg h0]
  exact key _ a b rfl ha hb

/-- The numerator and the denominator in lowest terms, the second one above 0. -/
def lowNum (a b : Int) : Int := if b < 0 then Int.tdiv (-a) (Int.gcd a b) else Int.tdiv a (Int.gcd a b)
def lowDen (a b : Int) : Int := if b < 0 then Int.tdiv (-b) (Int.gcd a b) else Int.tdiv b (Int.gcd a b)
theorem tdiv_small (a g m : Int) (hg : 1 ≤ g) (h : -m ≤ a ∧ a ≤ m) : -m ≤ Int.tdiv a g ∧ Int.tdiv a g ≤ m := by
  have h1 : (Int.tdiv a g).natAbs ≤ a.natAbs := by
    rw [Int.natAbs_tdiv]; exact Nat.div_le_self _ _
  omega

theorem spec_l1Make_ev (a b : Int) (ha : -9223372036854775808 < a ∧ a < 9223372036854775808) (hb : -9223372036854775808 < b ∧ b < 9223372036854775808) (h0 : b ≠ 0) : Ev (fun k => spec_l1Make.f k a b) (lowNum a b, lowDen a b) := by
  unfold spec_l1Make.f lowNum lowDen
  have hg := gcd_le a b 9223372036854775807 (.inr h0) (by omega) (by omega)
  refine Ev.ite (fun h => ?_) (fun h => ?_)
  · rw [if_pos h, if_pos h, w64 (x := -a) (by omega) (by omega), w64 (x := -b) (by omega) (by omega)]
    have e : Int.gcd (-a) (-b) = Int.gcd a b := by simp [Int.gcd]
    refine Ev.bind (Ev.to (spec_l1Gcd_ev (-a) (-b) (by omega) (by omega)) (by rw [e])) (Ev.neg (by omega) (Ev.of_eq fun _ => ?_))
    have h1 := tdiv_small (-a) (Int.gcd a b) 9223372036854775807 hg.1 (by omega)
    have h2 := tdiv_small (-b) (Int.gcd a b) 9223372036854775807 hg.1 (by omega)
    rw [w64 (by omega) (by omega), w64 (by omega) (by omega)]
  · rw [if_neg h, if_neg h]
    refine Ev.bind (spec_l1Gcd_ev a b ha hb) (Ev.neg (by omega) (Ev.of_eq fun _ => ?_))
    have h1 := tdiv_small a (Int.gcd a b) 9223372036854775807 hg.1 (by omega)
    have h2 := tdiv_small b (Int.gcd a b) 9223372036854775807 hg.1 (by omega)
    rw [w64 (by omega) (by omega), w64 (by omega) (by omega)]

def goodFrac (a b : Int) : Bool := decide (-1000000000 ≤ a) && decide (a ≤ 1000000000) && (decide (1 ≤ b) && decide (b ≤ 1000000000)) && decide (Int.gcd a b = 1)
theorem goodFrac_iff (a b : Int) : goodFrac a b = true ↔ (-1000000000 ≤ a ∧ a ≤ 1000000000) ∧ (1 ≤ b ∧ b ≤ 1000000000) ∧ Int.gcd a b = 1 := by
  simp [goodFrac, and_assoc]

theorem impl_GoodFrac_ev (a b : Int) : Ev (fun k => impl_GoodFrac.f k a b) (goodFrac a b) := by
  unfold impl_GoodFrac.f goodFrac
  refine Ev.bind0 (impl_within_eq _ _ _) ?_
  by_cases h1 : -1000000000 ≤ a ∧ a ≤ 1000000000
  · rw [decide_eq_true h1.1, decide_eq_true h1.2]
    refine Ev.pos rfl (Ev.bind0 (impl_within_eq _ _ _) ?_)
    by_cases h2 : 1 ≤ b ∧ b ≤ 1000000000
    · rw [decide_eq_true h2.1, decide_eq_true h2.2]
      refine Ev.pos rfl (Ev.to (Ev.bind (impl_divisor_ev a b (by omega) (by omega)) (Ev.now _)) ?_)
      simp only [Bool.and_self, Bool.true_and]
      rw [Bool.eq_iff_iff]; simp; omega
    · refine Ev.neg (by simpa using fun h => by omega) (Ev.of_eq fun _ => ?_)
      have : (decide (1 ≤ b) && decide (b ≤ 1000000000)) = false := by simpa using fun h => by omega
      rw [this]; simp
  · refine Ev.neg (by simpa using fun h => by omega) (Ev.of_eq fun _ => ?_)
    have : (decide (-1000000000 ≤ a) && decide (a ≤ 1000000000)) = false := by simpa using fun h => by omega
    rw [this]; simp

theorem spec_GoodFrac_ev (a b : Int) : Ev (fun k => spec_GoodFrac.f k a b) (goodFrac a b) := by
  unfold spec_GoodFrac.f goodFrac
  refine Ev.bind0 (spec_l1In_eq _ _ _) ?_
  by_cases h1 : -1000000000 ≤ a ∧ a ≤ 1000000000
  · rw [decide_eq_true h1.1, decide_eq_true h1.2]
    refine Ev.pos rfl (Ev.bind0 (spec_l1In_eq _ _ _) ?_)
    by_cases h2 : 1 ≤ b ∧ b ≤ 1000000000
    · rw [decide_eq_true h2.1, decide_eq_true h2.2]
      refine Ev.pos rfl (Ev.to (Ev.bind (spec_l1Gcd_ev a b (by omega) (by omega)) (Ev.now _)) ?_)
      simp only [Bool.and_self, Bool.true_and]
      rw [Bool.eq_iff_iff]; simp; omega
    · refine Ev.neg (by simpa using fun h => by omega) (Ev.of_eq fun _ => ?_)
      have : (decide (1 ≤ b) && decide (b ≤ 1000000000)) = false := by simpa using fun h => by omega
      rw [this]; simp
  · refine Ev.neg (by simpa using fun h => by omega) (Ev.of_eq fun _ => ?_)
    have : (decide (-1000000000 ≤ a) && decide (a ≤ 1000000000)) = false := by simpa using fun h => by omega
    rw [this]; simp

theorem impl_lowest_ev (a b : Int) (ha : -9223372036854775808 < a ∧ a < 9223372036854775808) (hb : -9223372036854775808 < b ∧ b < 9223372036854775808) (h0 : b ≠ 0) :
    Ev (fun k => impl_lowest.f k a b) (if goodFrac (lowNum a b) (lowDen a b) = true then (lowNum a b, lowDen a b, true) else (0, 0, false)) := by
  unfold impl_lowest.f lowNum lowDen
  have hg := gcd_le a b 9223372036854775807 (.inr h0) (by omega) (by omega)
  refine Ev.bind (impl_divisor_ev a b ha hb) ?_
  refine Ev.ite (fun h => ?_) (fun h => ?_)
  · rw [if_pos h, if_pos h, w64 (x := -(Int.gcd a b : Int)) (by omega) (by omega)]
    have h1 := tdiv_small (-a) (Int.gcd a b) 9223372036854775807 hg.1 (by omega)
    have h2 := tdiv_small (-b) (Int.gcd a b) 9223372036854775807 hg.1 (by omega)
    have e1 : Int.tdiv a (-(Int.gcd a b : Int)) = Int.tdiv (-a) (Int.gcd a b) := by rw [Int.tdiv_neg, Int.neg_tdiv]
    have e2 : Int.tdiv b (-(Int.gcd a b : Int)) = Int.tdiv (-b) (Int.gcd a b) := by rw [Int.tdiv_neg, Int.neg_tdiv]
    refine Ev.neg (by omega) ?_
    rw [e1, e2, w64 (by omega) (by omega), w64 (by omega) (by omega)]
    refine Ev.bind (impl_GoodFrac_ev _ _) ?_
    refine Ev.ite (fun hq => ?_) (fun hq => ?_)
    · rw [if_pos hq]; exact Ev.now _
    · rw [if_neg hq]; exact Ev.now _
  · rw [if_neg h, if_neg h]
    have h1 := tdiv_small a (Int.gcd a b) 9223372036854775807 hg.1 (by omega)
    have h2 := tdiv_small b (Int.gcd a b) 9223372036854775807 hg.1 (by omega)
    refine Ev.neg (by omega) ?_
    rw [w64 (by omega) (by omega), w64 (by omega) (by omega)]
    refine Ev.bind (impl_GoodFrac_ev _ _) ?_
    refine Ev.ite (fun hq => ?_) (fun hq => ?_)
    · rw [if_pos hq]; exact Ev.now _
    · rw [if_neg hq]; exact Ev.now _

theorem low_gcd (a b : Int) (h : 0 < b) : Int.gcd (lowNum a b) (lowDen a b) = 1 := by
  unfold lowNum lowDen
  rw [if_neg (by omega), if_neg (by omega)]
  unfold Int.gcd
  have hpos : 0 < Nat.gcd a.natAbs b.natAbs := Nat.gcd_pos_of_pos_right _ (by omega)
  rw [Int.natAbs_tdiv, Int.natAbs_tdiv, Int.natAbs_natCast]
  exact Nat.gcd_div_gcd_div_gcd_of_pos_right (by omega)
theorem low_den_pos (a b : Int) (h : 0 < b) : 1 ≤ lowDen a b ∧ lowDen a b ≤ b := by
  unfold lowDen
  rw [if_neg (by omega)]
  have hg := gcd_le a b b (.inr (by omega))
  obtain ⟨n, rfl⟩ := exists_nat_of_nonneg (Int.le_of_lt h)
  have hd : Int.gcd a (n : Int) ∣ n := by have := Int.gcd_dvd_natAbs_right a (n : Int); simpa using this
  have hp : 0 < Int.gcd a (n : Int) := Nat.pos_of_dvd_of_pos hd (by omega)
  rw [show Int.tdiv (n : Int) (Int.gcd a (n : Int) : Int) = ((n / Int.gcd a (n : Int) : Nat) : Int) from rfl]
  have h1 : 1 ≤ n / Int.gcd a (n : Int) := Nat.div_pos (Nat.le_of_dvd (by omega) hd) hp
  have h2 : n / Int.gcd a (n : Int) ≤ n := Nat.div_le_self _ _
  omega
theorem low_num_le (a b m : Int) (h : 0 < b) (ha : -m ≤ a ∧ a ≤ m) : -m ≤ lowNum a b ∧ lowNum a b ≤ m := by
  unfold lowNum
  rw [if_neg (by omega)]
  have hp : 0 < Int.gcd a b := by
    rcases Nat.eq_zero_or_pos (Int.gcd a b) with h0 | h0
    · rw [Int.gcd_eq_zero_iff] at h0; omega
    · exact h0
  exact tdiv_small a _ m (by omega) ha
theorem low_num_pos (a b : Int) (h : 0 < b) (ha : 0 < a) : 1 ≤ lowNum a b ∧ lowNum a b ≤ a := by
  have e : lowNum a b = lowDen b a := by unfold lowNum lowDen; rw [if_neg (by omega), if_neg (by omega), Int.gcd_comm]
  rw [e]; exact low_den_pos b a ha
theorem low_good (a b : Int) (ha : -1000000000 ≤ a ∧ a ≤ 1000000000) (hb : 1 ≤ b ∧ b ≤ 1000000000) : goodFrac (lowNum a b) (lowDen a b) = true := by
  rw [goodFrac_iff]
  have h1 := low_num_le a b 1000000000 (by omega) ha
  have h2 := low_den_pos a b (by omega)
  exact ⟨h1, ⟨h2.1, by omega⟩, low_gcd a b (by omega)⟩
/-- The value: num / den = a / b. -/
theorem low_cross (a b : Int) (h : 0 < b) : lowNum a b * b = a * lowDen a b := by
  unfold lowNum lowDen
  rw [if_neg (by omega), if_neg (by omega)]
  have h1 : (Int.gcd a b : Int) * Int.tdiv a (Int.gcd a b) = a := Int.mul_tdiv_cancel' (Int.gcd_dvd_left a b)
  have h2 : (Int.gcd a b : Int) * Int.tdiv b (Int.gcd a b) = b := Int.mul_tdiv_cancel' (Int.gcd_dvd_right a b)
  generalize Int.tdiv a (Int.gcd a b) = p at h1 ⊢
  generalize Int.tdiv b (Int.gcd a b) = q at h2 ⊢
  rw [← h1]
  conv => lhs; rw [← h2]
  rw [Int.mul_assoc, Int.mul_comm p, Int.mul_assoc, Int.mul_comm q p]

end Go.Proofs.Ytagkblgpaallbaa.Pure
namespace Go.Proofs.Ytagkblgpaallbaa.Pure
open Go.RowKit Go.Proofs.Ytagkblgpaallbaa.Print Go.Proofs.YtagkblgpaallbaaW.PrintWords Go.Proofs.YtagkblgpaallbaaW.PrintLast Go.Proofs.YtagkblgpaallbaaW.PrintMore

/-! Places shared out. -/
def flowOk (flow : List Int) : Bool := decide (1 ≤ (flow.length : Int)) && decide ((flow.length : Int) ≤ 8) && allIn flow 1 30
def countsOk (flow counts : List Int) : Bool := flowOk flow && (decide ((counts.length : Int) = (flow.length : Int)) && (allIn counts 1 40 && decide (counts.sum ≤ 40)))
theorem flowOk_iff (flow : List Int) : flowOk flow = true ↔ (1 ≤ flow.length ∧ flow.length ≤ 8) ∧ ∀ x ∈ flow, 1 ≤ x ∧ x ≤ 30 := by
  simp only [flowOk, Bool.and_eq_true, decide_eq_true_eq, allIn_iff]
  constructor
  · rintro ⟨⟨h1, h2⟩, h3⟩; exact ⟨⟨by omega, by omega⟩, h3⟩
  · rintro ⟨⟨h1, h2⟩, h3⟩; exact ⟨⟨by omega, by omega⟩, h3⟩
theorem countsOk_iff (flow counts : List Int) : countsOk flow counts = true ↔ flowOk flow = true ∧ counts.length = flow.length ∧ (∀ x ∈ counts, 1 ≤ x ∧ x ≤ 40) ∧ counts.sum ≤ 40 := by
  simp only [countsOk, Bool.and_eq_true, decide_eq_true_eq, allIn_iff]
  constructor
  · rintro ⟨h1, h2, h3, h4⟩; exact ⟨h1, by omega, h3, h4⟩
  · rintro ⟨h1, h2, h3, h4⟩; exact ⟨h1, by omega, h3, h4⟩

theorem spec_l4Flow_ev (flow : List Int) (h : flow.length < 4611686018427387904) : Ev (fun k => spec_l4Flow.f k flow) (flowOk flow) := by
  unfold spec_l4Flow.f flowOk
  refine Ev.bind0 (spec_l1In_eq _ _ _) ?_
  refine Ev.ite (fun hc => ?_) (fun hc => ?_)
  · rw [hc]; refine Ev.bind (spec_l1All_ev flow 1 30 h) ?_; simpa using Ev.now _
  · rw [Bool.eq_false_iff.mpr hc]; exact Ev.now _

theorem impl_isFlow_ev (flow : List Int) (h : flow.length < 4611686018427387904) : Ev (fun k => impl_isFlow.f k flow) (flowOk flow) := by
  unfold impl_isFlow.f flowOk
  refine Ev.bind0 (impl_within_eq _ _ _) ?_
  refine Ev.ite (fun hc => ?_) (fun hc => ?_)
  · rw [hc]; refine Ev.bind (impl_allWithin_ev flow 1 30 h) ?_; simpa using Ev.now _
  · rw [Bool.eq_false_iff.mpr hc]; exact Ev.now _

theorem spec_l4Counts_ev (flow counts : List Int) (h : flow.length ≤ 1048576) (h2 : counts.length ≤ 1048576) : Ev (fun k => spec_l4Counts.f k flow counts) (countsOk flow counts) := by
  unfold spec_l4Counts.f countsOk
  refine Ev.bind (spec_l4Flow_ev flow (by omega)) ?_
  refine Ev.ite (fun hc => ?_) (fun hc => ?_)
  · rw [hc]
    refine Ev.ite (fun hd => ?_) (fun hd => ?_)
    · rw [decide_eq_true hd]
      refine Ev.bind (spec_l1All_ev counts 1 40 (by omega)) ?_
      refine Ev.ite (fun he => ?_) (fun he => ?_)
      · rw [he]; refine Ev.bind (spec_l3Sum_ev counts 1 40 ((allIn_iff _ _ _).mp he) (by omega) (by omega) h2) ?_; simpa using Ev.now _
      · rw [Bool.eq_false_iff.mpr he]; exact Ev.now _
    · rw [decide_eq_false hd]; exact Ev.now _
  · rw [Bool.eq_false_iff.mpr hc]; exact Ev.now _

theorem impl_areCounts_ev (flow counts : List Int) (h : flow.length ≤ 1048576) (h2 : counts.length ≤ 1048576) : Ev (fun k => impl_areCounts.f k flow counts) (countsOk flow counts) := by
  unfold impl_areCounts.f countsOk
  refine Ev.bind (impl_isFlow_ev flow (by omega)) ?_
  refine Ev.ite (fun hc => ?_) (fun hc => ?_)
  · rw [hc]
    refine Ev.ite (fun hd => ?_) (fun hd => ?_)
    · rw [decide_eq_true hd]
      refine Ev.bind (impl_allWithin_ev counts 1 40 (by omega)) ?_
      refine Ev.ite (fun he => ?_) (fun he => ?_)
      · rw [he]; refine Ev.bind (impl_sum_ev counts 1 40 ((allIn_iff _ _ _).mp he) (by omega) (by omega) h2) ?_; simpa using Ev.now _
      · rw [Bool.eq_false_iff.mpr he]; exact Ev.now _
    · rw [decide_eq_false hd]; exact Ev.now _
  · rw [Bool.eq_false_iff.mpr hc]; exact Ev.now _

/-- By how much less the cost is with one more. -/
def gn (f c : Int) : Int := lowNum f (c * (c + 1))
def gd (f c : Int) : Int := lowDen f (c * (c + 1))
theorem gain_den (c : Int) (hc : 1 ≤ c ∧ c ≤ 40) : 1 ≤ c * (c + 1) ∧ c * (c + 1) ≤ 1640 := by
  have h1 : 1 * 1 ≤ c * (c + 1) := Int.mul_le_mul (by omega) (by omega) (by omega) (by omega)
  have h2 : c * (c + 1) ≤ 40 * 41 := Int.mul_le_mul (by omega) (by omega) (by omega) (by omega)
  omega
theorem gn_bounds (f c : Int) (hf : 1 ≤ f ∧ f ≤ 30) (hc : 1 ≤ c ∧ c ≤ 40) : 1 ≤ gn f c ∧ gn f c ≤ 30 := by
  have := low_num_pos f (c * (c + 1)) (by have := gain_den c hc; omega) (by omega); unfold gn; omega
theorem gd_bounds (f c : Int) (hf : 1 ≤ f ∧ f ≤ 30) (hc : 1 ≤ c ∧ c ≤ 40) : 1 ≤ gd f c ∧ gd f c ≤ 1640 := by
  have := gain_den c hc
  have := low_den_pos f (c * (c + 1)) (by omega); unfold gd; omega
theorem mul_small {a b m n : Int} (ha : 0 ≤ a ∧ a ≤ m) (hb : 0 ≤ b ∧ b ≤ n) : 0 ≤ a * b ∧ a * b ≤ m * n :=
  ⟨Int.mul_nonneg ha.1 hb.1, Int.mul_le_mul ha.2 hb.2 hb.1 (by omega)⟩
/-- The first greatest: after so many. -/
def bestUp (lt : Nat → Nat → Bool) : Nat → Nat
  | 0 => 0
  | i + 1 => if lt (bestUp lt i) i = true then i else bestUp lt i
theorem bestUp_succ (lt : Nat → Nat → Bool) (i : Nat) : bestUp lt (i + 1) = if lt (bestUp lt i) i = true then i else bestUp lt i := rfl
theorem bestUp_lt (lt : Nat → Nat → Bool) (n i : Nat) (hn : 0 < n) (h : i ≤ n) : bestUp lt i < n := by
  induction i with
  | zero => exact hn
  | succ i ih => unfold bestUp; split
                 · omega
                 · exact ih (by omega)
def gainLt (flow counts : List Int) (b i : Nat) : Bool := decide (gn flow[b]! counts[b]! * gd flow[i]! counts[i]! < gn flow[i]! counts[i]! * gd flow[b]! counts[b]!)
def nextOf (flow counts : List Int) : Nat := bestUp (gainLt flow counts) flow.length
theorem nextOf_lt (flow counts : List Int) (h : 0 < flow.length) : nextOf flow counts < flow.length := bestUp_lt _ _ _ h (Nat.le_refl _)

theorem spec_l4Gain_ev (flow counts : List Int) (i : Nat) (hi : i < flow.length) (hl : counts.length = flow.length) (hf : ∀ x ∈ flow, 1 ≤ x ∧ x ≤ 30) (hc : ∀ x ∈ counts, 1 ≤ x ∧ x ≤ 40) :
    Ev (fun k => spec_l4Gain.f k flow counts (i : Int)) (gn flow[i]! counts[i]!, gd flow[i]! counts[i]!) := by
  have hi2 : i < counts.length := by omega
  have h1 := hf flow[i] (List.getElem_mem hi)
  have h2 := hc counts[i] (List.getElem_mem hi2)
  have h3 := gain_den counts[i] h2
  unfold spec_l4Gain.f
  refine Ev.pos (by omega) (Ev.pos (lt_len hi) (Ev.pos (lt_len hi2) ?_))
  rw [rd_nat _ _ hi, rd_nat _ _ hi2, getElem!_pos flow i hi, getElem!_pos counts i hi2, w64 (x := counts[i] + 1) (by omega) (by omega), w64 (by omega) (by omega)]
  exact Ev.bind (spec_l1Make_ev _ _ (by omega) (by omega) (by omega)) (Ev.now _)
theorem spec_l1Less_gain (flow counts : List Int) (b i : Nat) (hb : b < flow.length) (hi : i < flow.length) (hl : counts.length = flow.length) (hf : ∀ x ∈ flow, 1 ≤ x ∧ x ≤ 30) (hc : ∀ x ∈ counts, 1 ≤ x ∧ x ≤ 40) :
    spec_l1Less.f (gn flow[b]! counts[b]!) (gd flow[b]! counts[b]!) (gn flow[i]! counts[i]!) (gd flow[i]! counts[i]!) = some (gainLt flow counts b i) := by
  have hib : i < counts.length := by omega
  have hbb : b < counts.length := by omega
  have g1 := gn_bounds _ _ (hf flow[i] (List.getElem_mem hi)) (hc counts[i] (List.getElem_mem hib))
  have g2 := gd_bounds _ _ (hf flow[i] (List.getElem_mem hi)) (hc counts[i] (List.getElem_mem hib))
  have g3 := gn_bounds _ _ (hf _ (List.getElem_mem hb)) (hc _ (List.getElem_mem hbb))
  have g4 := gd_bounds _ _ (hf _ (List.getElem_mem hb)) (hc _ (List.getElem_mem hbb))
  rw [← getElem!_pos flow, ← getElem!_pos counts] at g1 g2 g3 g4
  have m1 := mul_small (a := gn flow[b]! counts[b]!) (b := gd flow[i]! counts[i]!) (m := 30) (n := 1640) ⟨by omega, by omega⟩ ⟨by omega, by omega⟩
  have m2 := mul_small (a := gn flow[i]! counts[i]!) (b := gd flow[b]! counts[b]!) (m := 30) (n := 1640) ⟨by omega, by omega⟩ ⟨by omega, by omega⟩
  unfold spec_l1Less.f gainLt
  rw [w64 (by omega) (by omega), w64 (by omega) (by omega)]
theorem spec_l4Next_ev (flow counts : List Int) (h0 : flow.length ≤ 1048576) (hl : counts.length = flow.length) (hf : ∀ x ∈ flow, 1 ≤ x ∧ x ≤ 30) (hc : ∀ x ∈ counts, 1 ≤ x ∧ x ≤ 40) :
    Ev (fun k => spec_l4Next.f k flow counts) (nextOf flow counts : Int) := by
  unfold spec_l4Next.f nextOf
  refine ev_up flow.length (fun k i => spec_l4Next.l0 k flow counts (bestUp (gainLt flow counts) i : Int) (flow.length : Int) (i : Int)) _ (fun _ => True) trivial ?_ ?_
  · intro _
    refine Ev.succ ?_
    simp only [spec_l4Next.l0]; exact Ev.neg (by omega) (Ev.now _)
  · intro i hi _ hn
    have hb : bestUp (gainLt flow counts) i < flow.length := bestUp_lt _ _ _ (by omega) (by omega)
    have hib : i < counts.length := by omega
    have hbb : bestUp (gainLt flow counts) i < counts.length := by omega
    refine Ev.succ ?_
    simp only [spec_l4Next.l0]
    refine Ev.pos (lt_len hi) (Ev.bind (spec_l4Gain_ev flow counts _ hb hl hf hc) (Ev.bind (spec_l4Gain_ev flow counts _ hi hl hf hc) ?_))
    have e := spec_l1Less_gain flow counts (bestUp (gainLt flow counts) i) i hb hi hl hf hc
    refine Ev.bind0 e ?_
    rw [w64 (by omega) (by omega)]
    have hn' := hn trivial
    rw [bestUp_succ] at hn'
    refine Ev.ite (fun hc => ?_) (fun hc => ?_)
    · rw [if_pos hc] at hn'; exact hn'
    · rw [if_neg hc] at hn'; exact hn'

theorem impl_gain_ev (f c : Int) (hf : 1 ≤ f ∧ f ≤ 30) (hc : 1 ≤ c ∧ c ≤ 40) : Ev (fun k => impl_gain.f k f c) (gn f c, gd f c) := by
  have h3 := gain_den c hc
  unfold impl_gain.f
  rw [w64 (x := c + 1) (by omega) (by omega), w64 (by omega) (by omega)]
  refine Ev.bind (impl_lowest_ev _ _ (by omega) (by omega) (by omega)) ?_
  rw [if_pos (low_good _ _ (by omega) (by omega))]
  exact Ev.now _
theorem impl_compareFracs_eq (a b c d : Int) (h1 : -4000000000000000000 ≤ a * d ∧ a * d ≤ 4000000000000000000) (h2 : -4000000000000000000 ≤ c * b ∧ c * b ≤ 4000000000000000000) :
    impl_compareFracs.f a b c d = some (if a * d < c * b then -1 else if c * b < a * d then 1 else 0) := by
  unfold impl_compareFracs.f
  rw [w64 (x := a * d) (by omega) (by omega), w64 (x := c * b) (by omega) (by omega), w64 (by omega) (by omega)]
  by_cases h : a * d < c * b
  · rw [if_pos (by omega), if_pos h]
  · rw [if_neg (by omega), if_neg h]
    by_cases h' : c * b < a * d
    · rw [if_pos (by omega), if_pos h']
    · rw [if_neg (by omega), if_neg h']
theorem impl_next_ev (flow counts : List Int) (h0 : flow.length ≤ 1048576) (hl : counts.length = flow.length) (hf : ∀ x ∈ flow, 1 ≤ x ∧ x ≤ 30) (hc : ∀ x ∈ counts, 1 ≤ x ∧ x ≤ 40) :
    Ev (fun k => impl_next.f k flow counts) (nextOf flow counts : Int) := by
  unfold impl_next.f nextOf
  refine ev_up flow.length (fun k i => impl_next.l0 k flow counts (bestUp (gainLt flow counts) i : Int) (flow.length : Int) (i : Int)) _ (fun _ => True) trivial ?_ ?_
  · intro _
    refine Ev.succ ?_
    simp only [impl_next.l0]; exact Ev.neg (by omega) (Ev.now _)
  · intro i hi _ hn
    have hb : bestUp (gainLt flow counts) i < flow.length := bestUp_lt _ _ _ (by omega) (by omega)
    have hib : i < counts.length := by omega
    have hbb : bestUp (gainLt flow counts) i < counts.length := by omega
    refine Ev.succ ?_
    simp only [impl_next.l0]
    have f1 := hf flow[i] (List.getElem_mem hi)
    have f2 := hc counts[i] (List.getElem_mem hib)
    have f3 := hf _ (List.getElem_mem hb)
    have f4 := hc _ (List.getElem_mem hbb)
    refine Ev.pos (lt_len hi) (Ev.pos (by omega) (Ev.pos (lt_len hi) (Ev.pos (lt_len hib) ?_)))
    rw [rd_nat _ _ hi, rd_nat _ _ hib, rd_nat _ _ hb, rd_nat _ _ hbb]
    refine Ev.bind (impl_gain_ev _ _ f1 f2) (Ev.pos (by omega) (Ev.pos (lt_len hb) (Ev.pos (lt_len hbb) (Ev.bind (impl_gain_ev _ _ f3 f4) ?_))))
    have g1 := gn_bounds _ _ f1 f2
    have g2 := gd_bounds _ _ f1 f2
    have g3 := gn_bounds _ _ f3 f4
    have g4 := gd_bounds _ _ f3 f4
    have m1 := mul_small (a := gn flow[bestUp (gainLt flow counts) i] counts[bestUp (gainLt flow counts) i]) (b := gd flow[i] counts[i]) (m := 30) (n := 1640) ⟨by omega, by omega⟩ ⟨by omega, by omega⟩
    have m2 := mul_small (a := gn flow[i] counts[i]) (b := gd flow[bestUp (gainLt flow counts) i] counts[bestUp (gainLt flow counts) i]) (m := 30) (n := 1640) ⟨by omega, by omega⟩ ⟨by omega, by omega⟩
    dsimp only
    refine Ev.bind0 (impl_compareFracs_eq _ _ _ _ (by omega) (by omega)) ?_
    rw [w64 (by omega) (by omega)]
    have hn' := hn trivial
    rw [bestUp_succ] at hn'
    have e : gainLt flow counts (bestUp (gainLt flow counts) i) i = decide (gn flow[bestUp (gainLt flow counts) i] counts[bestUp (gainLt flow counts) i] * gd flow[i] counts[i] < gn flow[i] counts[i] * gd flow[bestUp (gainLt flow counts) i] counts[bestUp (gainLt flow counts) i]) := by
      unfold gainLt
      rw [getElem!_pos flow i hi, getElem!_pos counts i hib, getElem!_pos flow _ hb, getElem!_pos counts _ hbb]
    by_cases hlt : gn flow[bestUp (gainLt flow counts) i] counts[bestUp (gainLt flow counts) i] * gd flow[i] counts[i] < gn flow[i] counts[i] * gd flow[bestUp (gainLt flow counts) i] counts[bestUp (gainLt flow counts) i]
    · rw [e, decide_eq_true hlt, if_pos rfl] at hn'
      rw [if_neg (by omega), if_pos hlt]
      exact Ev.pos (by omega) hn'
    · rw [e, decide_eq_false hlt, if_neg (by decide)] at hn'
      rw [if_neg hlt]
      refine Ev.neg ?_ hn'
      split <;> omega

def nextFor (flow counts : List Int) : Int × Bool := if countsOk flow counts = true then ((nextOf flow counts : Int), true) else (0, false)
theorem spec_NextFor_ev (flow counts : List Int) (h : flow.length ≤ 1048576) (h2 : counts.length ≤ 1048576) : Ev (fun k => spec_NextFor.f k flow counts) (nextFor flow counts) := by
  unfold spec_NextFor.f nextFor
  refine Ev.bind (spec_l4Counts_ev flow counts h h2) ?_
  refine Ev.ite (fun hc => ?_) (fun hc => ?_)
  · rw [if_pos hc]
    have hh := (countsOk_iff _ _).mp hc
    exact Ev.bind (spec_l4Next_ev flow counts h hh.2.1 ((flowOk_iff _).mp hh.1).2 hh.2.2.1) (Ev.now _)
  · rw [if_neg hc]; exact Ev.now _

theorem impl_NextFor_ev (flow counts : List Int) (h : flow.length ≤ 1048576) (h2 : counts.length ≤ 1048576) : Ev (fun k => impl_NextFor.f k flow counts) (nextFor flow counts) := by
  unfold impl_NextFor.f nextFor
  refine Ev.bind (impl_areCounts_ev flow counts h h2) ?_
  refine Ev.ite (fun hc => ?_) (fun hc => ?_)
  · rw [if_pos hc]
    have hh := (countsOk_iff _ _).mp hc
    exact Ev.bind (impl_next_ev flow counts h hh.2.1 ((flowOk_iff _).mp hh.1).2 hh.2.2.1) (Ev.now _)
  · rw [if_neg hc]; exact Ev.now _

end Go.Proofs.Ytagkblgpaallbaa.Pure
namespace Go.Proofs.Ytagkblgpaallbaa.Pure
open Go.RowKit Go.Proofs.Ytagkblgpaallbaa.Print Go.Proofs.YtagkblgpaallbaaW.PrintWords Go.Proofs.YtagkblgpaallbaaW.PrintLast Go.Proofs.YtagkblgpaallbaaW.PrintMore

/-- One place more for the best kind. -/
def bump (flow counts : List Int) : List Int := counts.set (nextOf flow counts) (counts[nextOf flow counts]! + 1)
def shareUp (flow : List Int) : Nat → List Int
  | 0 => List.replicate flow.length 1
  | i + 1 => bump flow (shareUp flow i)
theorem bump_length (flow counts : List Int) : (bump flow counts).length = counts.length := by simp [bump]
theorem shareUp_length (flow : List Int) (i : Nat) : (shareUp flow i).length = flow.length := by
  induction i with
  | zero => simp [shareUp]
  | succ i ih => rw [shareUp, bump_length, ih]
theorem shareUp_bounds (flow : List Int) (h0 : 0 < flow.length) (i : Nat) : ∀ x ∈ shareUp flow i, 1 ≤ x ∧ x ≤ 1 + (i : Int) := by
  induction i with
  | zero => intro x hx; rw [shareUp] at hx; have := List.eq_of_mem_replicate hx; omega
  | succ i ih =>
    intro x hx
    rw [shareUp, bump] at hx
    rcases List.mem_or_eq_of_mem_set hx with h | h
    · have := ih x h; omega
    · have hn : nextOf flow (shareUp flow i) < (shareUp flow i).length := by rw [shareUp_length]; exact nextOf_lt _ _ h0
      have := ih _ (List.getElem_mem hn)
      rw [getElem!_pos (shareUp flow i) _ hn] at h; omega
/-- The shares of so many places. -/
def shareOf (flow : List Int) (places : Int) : List Int := shareUp flow (places - flow.length).toNat
def kindsOk (flow : List Int) (places : Int) : Bool := flowOk flow && (decide ((flow.length : Int) ≤ places) && decide (places ≤ 40))

theorem spec_l4Share_ev (flow : List Int) (places : Int) (h1 : 1 ≤ flow.length ∧ flow.length ≤ 8) (hf : ∀ x ∈ flow, 1 ≤ x ∧ x ≤ 30) (hp : (flow.length : Int) ≤ places ∧ places ≤ 40) :
    Ev (fun k => spec_l4Share.f k flow places) (shareOf flow places) := by
  unfold spec_l4Share.f
  refine ev_up flow.length (fun k i => spec_l4Share.l0 k flow places (List.replicate i 1) (flow.length : Int) (i : Int)) _ (fun _ => True) trivial ?_ ?_
  · intro _
    refine Ev.succ ?_
    simp only [spec_l4Share.l0]
    refine Ev.neg (by omega) ?_
    have hm : ((places - flow.length).toNat : Int) = places - flow.length := by omega
    rw [show List.replicate flow.length (1 : Int) = shareUp flow 0 from rfl]
    have key := ev_up (places - flow.length).toNat (fun k i => spec_l4Share.l1 k flow places (shareUp flow i) ((flow.length : Int) + (i : Int))) (shareOf flow places) (fun _ => True) trivial ?_ ?_
    · simpa using key
    · intro _
      refine Ev.succ ?_
      simp only [spec_l4Share.l1]
      exact Ev.neg (by omega) (Ev.now _)
    · intro i hi _ hn
      refine Ev.succ ?_
      simp only [spec_l4Share.l1]
      have hc := shareUp_bounds flow (by omega) i
      have hl := shareUp_length flow i
      have hx : nextOf flow (shareUp flow i) < (shareUp flow i).length := by rw [hl]; exact nextOf_lt _ _ (by omega)
      have hb := hc _ (List.getElem_mem hx)
      refine Ev.pos (by omega) (Ev.bind (spec_l4Next_ev flow (shareUp flow i) (by omega) hl hf (fun x hx => by have := hc x hx; omega)) (Ev.pos (by omega) (Ev.pos (lt_len hx) ?_)))
      rw [rd_nat _ _ hx, toNat_nat, w64 (x := _ + 1) (by omega) (by omega), w64 (x := _ + 1) (by omega) (by omega)]
      have hn' := hn trivial
      rw [shareUp, bump, getElem!_pos (shareUp flow i) _ hx] at hn'
      rw [show (flow.length : Int) + (i : Int) + 1 = (flow.length : Int) + ((i + 1 : Nat) : Int) by omega]
      exact hn'
  · intro i hi _ hn
    refine Ev.succ ?_
    simp only [spec_l4Share.l0]
    refine Ev.pos (by omega) (Ev.pos (by rw [List.length_replicate]; omega) ?_)
    rw [w64 (by omega) (by omega), show List.replicate i (1 : Int) ++ [1] = List.replicate (i + 1) 1 by rw [List.replicate_succ']]
    exact hn trivial

theorem impl_shareOut_ev (flow : List Int) (places : Int) (h1 : 1 ≤ flow.length ∧ flow.length ≤ 8) (hf : ∀ x ∈ flow, 1 ≤ x ∧ x ≤ 30) (hp : (flow.length : Int) ≤ places ∧ places ≤ 40) :
    Ev (fun k => impl_shareOut.f k flow places) (shareOf flow places) := by
  unfold impl_shareOut.f
  have hr : slices_Repeat_int_int.f [1] (flow.length : Int) = some (shareUp flow 0) := by
    simp only [slices_Repeat_int_int.f]; rw [if_pos (by omega), toNat_nat]; rfl
  refine Ev.bind0 hr ?_
  rw [w64 (by omega) (by omega)]
  have hm : ((places - flow.length).toNat : Int) = places - flow.length := by omega
  rw [← hm]
  refine ev_up (places - flow.length).toNat (fun k i => impl_shareOut.l0 k flow (shareUp flow i) ((places - flow.length).toNat : Int) (i : Int)) _ (fun _ => True) trivial ?_ ?_
  · intro _
    refine Ev.succ ?_
    simp only [impl_shareOut.l0]
    exact Ev.neg (by omega) (Ev.now _)
  · intro i hi _ hn
    refine Ev.succ ?_
    simp only [impl_shareOut.l0]
    have hc := shareUp_bounds flow (by omega) i
    have hl := shareUp_length flow i
    have hx : nextOf flow (shareUp flow i) < (shareUp flow i).length := by rw [hl]; exact nextOf_lt _ _ (by omega)
    have hb := hc _ (List.getElem_mem hx)
    refine Ev.pos (by omega) (Ev.bind (impl_next_ev flow (shareUp flow i) (by omega) hl hf (fun x hx => by have := hc x hx; omega)) (Ev.pos (by omega) (Ev.pos (lt_len hx) ?_)))
    rw [rd_nat _ _ hx, toNat_nat, w64 (x := _ + 1) (by omega) (by omega), w64 (x := _ + 1) (by omega) (by omega)]
    have hn' := hn trivial
    rw [shareUp, bump, getElem!_pos (shareUp flow i) _ hx] at hn'
    exact hn'

theorem spec_GoodKinds_ev (flow : List Int) (places : Int) (h : flow.length ≤ 1048576) : Ev (fun k => spec_GoodKinds.f k flow places) (kindsOk flow places) := by
  unfold spec_GoodKinds.f kindsOk
  refine Ev.bind (spec_l4Flow_ev flow (by omega)) ?_
  refine Ev.ite (fun hc => ?_) (fun hc => ?_)
  · rw [hc]; exact Ev.bind0 (spec_l1In_eq _ _ _) (by simpa using Ev.now _)
  · rw [Bool.eq_false_iff.mpr hc]; exact Ev.now _
theorem spec_ShareOut_ev (flow : List Int) (places : Int) (h : flow.length ≤ 1048576) : Ev (fun k => spec_ShareOut.f k flow places) (if kindsOk flow places = true then (shareOf flow places, true) else ([], false)) := by
  unfold spec_ShareOut.f
  refine Ev.bind (spec_GoodKinds_ev flow places h) ?_
  refine Ev.ite (fun hc => ?_) (fun hc => ?_)
  · rw [if_pos hc]
    simp only [kindsOk, Bool.and_eq_true, decide_eq_true_eq] at hc
    have hk := (flowOk_iff flow).mp hc.1
    exact Ev.bind (spec_l4Share_ev flow places hk.1 hk.2 hc.2) (Ev.now _)
  · rw [if_neg hc]; exact Ev.now _

theorem impl_GoodKinds_ev (flow : List Int) (places : Int) (h : flow.length ≤ 1048576) : Ev (fun k => impl_GoodKinds.f k flow places) (kindsOk flow places) := by
  unfold impl_GoodKinds.f kindsOk
  refine Ev.bind (impl_isFlow_ev flow (by omega)) ?_
  refine Ev.ite (fun hc => ?_) (fun hc => ?_)
  · rw [hc]; exact Ev.bind0 (impl_within_eq _ _ _) (by simpa using Ev.now _)
  · rw [Bool.eq_false_iff.mpr hc]; exact Ev.now _
theorem impl_ShareOut_ev (flow : List Int) (places : Int) (h : flow.length ≤ 1048576) : Ev (fun k => impl_ShareOut.f k flow places) (if kindsOk flow places = true then (shareOf flow places, true) else ([], false)) := by
  unfold impl_ShareOut.f
  refine Ev.bind (impl_GoodKinds_ev flow places h) ?_
  refine Ev.ite (fun hc => ?_) (fun hc => ?_)
  · rw [if_pos hc]
    simp only [kindsOk, Bool.and_eq_true, decide_eq_true_eq] at hc
    have hk := (flowOk_iff flow).mp hc.1
    exact Ev.bind (impl_shareOut_ev flow places hk.1 hk.2 hc.2) (Ev.now _)
  · rw [if_neg hc]; exact Ev.now _
theorem shareOf_length (flow : List Int) (places : Int) : (if kindsOk flow places = true then (shareOf flow places, true) else (([] : List Int), false)).1.length ≤ 8 := by
  split
  · rename_i hc
    simp only [kindsOk, Bool.and_eq_true, decide_eq_true_eq] at hc
    have hk := (flowOk_iff flow).mp hc.1
    dsimp only; unfold shareOf; rw [shareUp_length]; omega
  · simp

/-- What the marks write: k, k + 1, .. -/
def upFrom (k : Int) (n : Nat) : List Int := (List.range n).map fun (j : Nat) => k + (j : Int)
theorem upFrom_length (k : Int) (n : Nat) : (upFrom k n).length = n := by simp [upFrom]
theorem upFrom_get (k : Int) (n i : Nat) (h : i < n) : (upFrom k n)[i]'(by rw [upFrom_length]; exact h) = k + (i : Int) := by simp [upFrom]
theorem upFrom_succ (k : Int) (n : Nat) : upFrom k (n + 1) = upFrom k n ++ [k + (n : Int)] := by simp [upFrom, List.range_succ]
theorem laws_markIntS_ev (l : List Int) (k0 : Int) (h0 : 0 ≤ k0 ∧ k0 ≤ 1073741824) (hl : l.length ≤ 1048576) : Ev (fun k => laws_markIntS.f k l k0) (k0 + (l.length : Int), upFrom k0 l.length) := by
  unfold laws_markIntS.f
  have key := ev_up l.length (fun k i => laws_markIntS.l0 k (upFrom k0 i ++ l.drop i) (k0 + (i : Int)) (i : Int)) (k0 + (l.length : Int), upFrom k0 l.length) (fun _ => True) trivial ?_ ?_
  · simpa [upFrom] using key
  · intro _
    refine Ev.succ ?_
    simp only [laws_markIntS.l0]
    refine Ev.neg (by simp [upFrom_length]) ?_
    rw [List.drop_length, List.append_nil]; exact Ev.now _
  · intro i hi _ hn
    refine Ev.succ ?_
    simp only [laws_markIntS.l0]
    have hlen : (upFrom k0 i ++ l.drop i).length = l.length := by simp [upFrom_length]; omega
    refine Ev.pos (by rw [hlen]; exact lt_len hi) (Ev.pos (by omega) ?_)
    rw [toNat_nat, w64 (x := (i : Int) + 1) (by omega) (by omega), w64 (by omega) (by omega)]
    have hs : (upFrom k0 i ++ l.drop i).set i (k0 + (i : Int)) = upFrom k0 (i + 1) ++ l.drop (i + 1) := by
      rw [List.set_append_right _ _ (by rw [upFrom_length]; exact Nat.le_refl _), upFrom_length, Nat.sub_self, List.drop_eq_getElem_cons hi, List.set_cons_zero, upFrom_succ, List.append_assoc]; rfl
    rw [hs, Int.add_assoc]
    exact hn trivial

theorem laws_heldIntS_ev (n : Nat) (k0 : Int) (h0 : 0 ≤ k0 ∧ k0 ≤ 1073741824) (hl : n ≤ 1048576) : Ev (fun k => laws_heldIntS.f k (upFrom k0 n) k0) (k0 + (n : Int)) := by
  unfold laws_heldIntS.f
  have key := ev_up n (fun k i => laws_heldIntS.l0 k (upFrom k0 n) (k0 + (i : Int)) (i : Int)) (k0 + (n : Int)) (fun _ => True) trivial ?_ ?_
  · simpa using key
  · intro _
    refine Ev.succ ?_
    simp only [laws_heldIntS.l0]
    exact Ev.neg (by simp [upFrom_length]) (Ev.now _)
  · intro i hi _ hn
    refine Ev.succ ?_
    simp only [laws_heldIntS.l0]
    have hi' : i < (upFrom k0 n).length := by rw [upFrom_length]; exact hi
    refine Ev.pos (lt_len hi') (Ev.pos (by omega) (Ev.pos (by rw [rd_nat _ _ hi', upFrom_get _ _ _ hi]) ?_))
    rw [w64 (x := (i : Int) + 1) (by omega) (by omega), w64 (by omega) (by omega), Int.add_assoc]
    exact hn trivial

end Go.Proofs.Ytagkblgpaallbaa.Pure
namespace Go.Proofs.Ytagkblgpaallbaa.Pure
open Go.RowKit Go.Proofs.Ytagkblgpaallbaa.Print Go.Proofs.YtagkblgpaallbaaW.PrintWords Go.Proofs.YtagkblgpaallbaaW.PrintLast Go.Proofs.YtagkblgpaallbaaW.PrintMore

theorem FnExactShareOut : laws_FnExactShareOut.Pure := by
  intro l0 p _ _ _ _
  refine Ev.rounds (g := fun k => laws_FnExactShareOut.f k l0 p) ?_
  unfold laws_FnExactShareOut.f
  refine Ev.ite (fun _ => Ev.now _) fun h0 => ?_
  have t0 := laws_toIntS_ev l0 (by omega)
  have e0 := laws_eqIntS_ev l0 (by omega)
  have hI := impl_ShareOut_ev l0 p (by omega)
  have hS := spec_ShareOut_ev l0 p (by omega)
  have hlen := shareOf_length l0 p
  revert hI hS hlen
  generalize (if kindsOk l0 p = true then (shareOf l0 p, true) else ([], false)) = R
  obtain ⟨g, b⟩ := R
  intro hI hS hlen
  dsimp only at hlen
  have eg := laws_eqIntS_ev g (by omega)
  have mg := laws_markIntS_ev g 1 (by omega) (by omega)
  have hg := laws_heldIntS_ev g.length 1 (by omega) (by omega)
  have m0 := laws_markIntS_ev l0 1 (by omega) (by omega)
  refine Ev.bind t0 (Ev.bind hS (Ev.bind t0 (Ev.bind hI (Ev.bind eg (Ev.pos rfl ?_)))))
  refine Ev.succ ?_
  simp only [laws_FnExactShareOut.j0, bne_self_eq_false, Bool.false_eq_true, if_false]
  refine Ev.bind t0 (Ev.bind e0 (Ev.pos rfl (Ev.bind m0 (Ev.neg (by dsimp only; omega) (Ev.bind eg (Ev.pos rfl ?_))))))
  refine Ev.succ ?_
  simp only [laws_FnExactShareOut.j1, Bool.false_eq_true, if_false]
  refine Ev.bind mg (Ev.bind hg (Ev.neg (by omega) (Ev.pos rfl (Ev.bind t0 (Ev.bind hI (Ev.bind eg (Ev.pos rfl ?_)))))))
  refine Ev.succ ?_
  simp only [laws_FnExactShareOut.j2, bne_self_eq_false, Bool.false_eq_true, if_false]
  exact Ev.bind hg (Ev.neg (by omega) (Ev.pos rfl (Ev.now _)))

end Go.Proofs.Ytagkblgpaallbaa.Pure
