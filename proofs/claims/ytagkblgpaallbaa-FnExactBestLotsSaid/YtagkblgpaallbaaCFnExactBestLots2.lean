/- At every argument BestLots of the program answers as BestLots of the reference, before and after its answer is written over: no condition but the statement's own. -/
import Derived.Test.YtagkblgpaallbaaCFnExactBestLots0
import Derived.Test.YtagkblgpaallbaaCFnExactBestLots1
import Derived.Deep.Slices
import Derived.ChangeArms
import Derived.ChangeSame
import Derived.Below
set_option linter.unusedVariables false
set_option linter.unusedSimpArgs false
namespace Go.Proofs.Ytagkblgpaallbaa.Print
open Go.RowKit Go.Proofs.YtagkblgpaallbaaW.PrintWords Go.Proofs.YtagkblgpaallbaaW.PrintLast Go.Proofs.YtagkblgpaallbaaW.PrintMore
attribute [local go_sem] max2_int min2_int max_two min_two max_three min_three max_four min_four   -- for this text's walks alone

mutual
def laws_FnExactBestLots.j0 : Nat → List Int → Int → Bool → List Int → Int → Bool → Bool → List Int → Int → Int → List Int → Int → Int → Option (Bool)
  | 0, _, _, _, _, _, _, _, _, _, _, _, _, _ => none
  | k + 1, x4, x5, x6, x8, x9, x10, x50, x102000, x102001, x102002, x119000, x119001, x119002 => if x50 = true then (some false) else ((laws_toTrade.f k x102000 x102001 x102002).bind fun bt125 => ((laws_eqTrade.f k x119000 x119001 x119002 bt125.1 bt125.2.1 bt125.2.2).bind fun t130 => (if t130 = true then ((laws_markTrade.f k x119000 x119001 x119002 1).bind fun bt131 => (if bt131.1 < 0 then (laws_FnExactBestLots.j1 k x4 x5 x6 x8 true x102000 x102001 x102002) else ((laws_eqIntS.f k x8 x4).bind fun t133 => (if t133 = true then (if x9 = x5 then (laws_FnExactBestLots.j1 k x4 x5 x6 x8 (x10 != x6) x102000 x102001 x102002) else (laws_FnExactBestLots.j1 k x4 x5 x6 x8 true x102000 x102001 x102002)) else (laws_FnExactBestLots.j1 k x4 x5 x6 x8 true x102000 x102001 x102002))))) else (some false))))
def laws_FnExactBestLots.j1 : Nat → List Int → Int → Bool → List Int → Bool → List Int → Int → Int → Option (Bool)
  | 0, _, _, _, _, _, _, _, _ => none
  | k + 1, x4, x5, x6, x8, x76, x102000, x102001, x102002 => if x76 = true then (some false) else ((laws_markIntS.f k x8 1).bind fun bt134 => ((laws_heldIntS.f k bt134.2 1).bind fun t136 => (if t136 < 0 then (some false) else (if t136 = bt134.1 then ((laws_toTrade.f k x102000 x102001 x102002).bind fun bt137 => ((impl_BestLots.f k bt137.1 bt137.2.1 bt137.2.2).bind fun bt142 => ((laws_eqIntS.f k bt142.1 x4).bind fun t147 => (if t147 = true then (if bt142.2.1 = x5 then (laws_FnExactBestLots.j2 k bt134.2 bt134.1 (bt142.2.2 != x6)) else (laws_FnExactBestLots.j2 k bt134.2 bt134.1 true)) else (laws_FnExactBestLots.j2 k bt134.2 bt134.1 true))))) else (some false)))))
def laws_FnExactBestLots.j2 : Nat → List Int → Int → Bool → Option (Bool)
  | 0, _, _, _ => none
  | k + 1, x8, x12, x108 => if x108 = true then (some false) else ((laws_heldIntS.f k x8 1).bind fun t148 => (if t148 < 0 then (some false) else (if t148 = x12 then (some true) else (some false))))
end
def laws_FnExactBestLots.f (k : Nat) (l0_0 : List Int) (a0_1 : Int) (a0_2 : Int) : Option (Bool) := (laws_szTrade.f l0_0 a0_1 a0_2 1048576).bind fun t102 => (if t102 < 0 then (some true) else ((laws_toTrade.f k l0_0 a0_1 a0_2).bind fun bt103 => ((spec_BestLots.f k bt103.1 bt103.2.1 bt103.2.2).bind fun bt108 => ((laws_toTrade.f k l0_0 a0_1 a0_2).bind fun bt113 => ((impl_BestLots.f k bt113.1 bt113.2.1 bt113.2.2).bind fun bt119 => ((laws_eqIntS.f k bt119.1 bt108.1).bind fun t124 => (if t124 = true then (if bt119.2.1 = bt108.2.1 then (laws_FnExactBestLots.j0 k bt108.1 bt108.2.1 bt108.2.2 bt119.1 bt119.2.1 bt119.2.2 (bt119.2.2 != bt108.2.2) l0_0 a0_1 a0_2 bt113.1 bt113.2.1 bt113.2.2) else (laws_FnExactBestLots.j0 k bt108.1 bt108.2.1 bt108.2.2 bt119.1 bt119.2.1 bt119.2.2 true l0_0 a0_1 a0_2 bt113.1 bt113.2.1 bt113.2.2)) else (laws_FnExactBestLots.j0 k bt108.1 bt108.2.1 bt108.2.2 bt119.1 bt119.2.1 bt119.2.2 true l0_0 a0_1 a0_2 bt113.1 bt113.2.1 bt113.2.2))))))))
set_option maxHeartbeats 8000000 in
set_option maxRecDepth 100000 in
theorem laws_FnExactBestLots.calls (k : Nat) (A0_0 : Option Addr) (c0_0 : Nat) (l0_0 : List Int) (a0_1 : Int) (a0_2 : Int) (r : Bool) (w : World) (hr0_0 : Kd.C (Kd.int .i64) w A0_0 l0_0.length l0_0) (hc0_0 : l0_0.length ≤ c0_0) (h : laws_FnExactBestLots.f k l0_0 a0_1 a0_2 = some r) :
    Calls Try.prog 9 #[.agg #[.slice A0_0 l0_0.length c0_0, .int .i64 a0_1, .int .i64 a0_2]] w fun e w' => e = .returned (.bool r) ∧ Below w.heap.size w w' := by
  have hu24 := Try.underlying24; have hu28 := Try.underlying28; have HR0_0 := Aside0.mk hr0_0; have HC0_0 := Aside0.mk hc0_0; clear hr0_0 hc0_0; have HB := Aside0.mk (Below.refl w.heap.size w); have H : ((laws_szTrade.f l0_0 a0_1 a0_2 1048576).bind fun t102 => (if t102 < 0 then (some true) else ((laws_toTrade.f k l0_0 a0_1 a0_2).bind fun bt103 => ((spec_BestLots.f k bt103.1 bt103.2.1 bt103.2.2).bind fun bt108 => ((laws_toTrade.f k l0_0 a0_1 a0_2).bind fun bt113 => ((impl_BestLots.f k bt113.1 bt113.2.1 bt113.2.2).bind fun bt119 => ((laws_eqIntS.f k bt119.1 bt108.1).bind fun t124 => (if t124 = true then (if bt119.2.1 = bt108.2.1 then (laws_FnExactBestLots.j0 k bt108.1 bt108.2.1 bt108.2.2 bt119.1 bt119.2.1 bt119.2.2 (bt119.2.2 != bt108.2.2) l0_0 a0_1 a0_2 bt113.1 bt113.2.1 bt113.2.2) else (laws_FnExactBestLots.j0 k bt108.1 bt108.2.1 bt108.2.2 bt119.1 bt119.2.1 bt119.2.2 true l0_0 a0_1 a0_2 bt113.1 bt113.2.1 bt113.2.2)) else (laws_FnExactBestLots.j0 k bt108.1 bt108.2.1 bt108.2.2 bt119.1 bt119.2.1 bt119.2.2 true l0_0 a0_1 a0_2 bt113.1 bt113.2.1 bt113.2.2))))))))) = some r := h; clear h; replace H := Option.bind_eq_some_iff.mp H; obtain ⟨t102, A20, H⟩ := H; replace H : (if t102 < 0 then (some true) else ((laws_toTrade.f k l0_0 a0_1 a0_2).bind fun bt103 => ((spec_BestLots.f k bt103.1 bt103.2.1 bt103.2.2).bind fun bt108 => ((laws_toTrade.f k l0_0 a0_1 a0_2).bind fun bt113 => ((impl_BestLots.f k bt113.1 bt113.2.1 bt113.2.2).bind fun bt119 => ((laws_eqIntS.f k bt119.1 bt108.1).bind fun t124 => (if t124 = true then (if bt119.2.1 = bt108.2.1 then (laws_FnExactBestLots.j0 k bt108.1 bt108.2.1 bt108.2.2 bt119.1 bt119.2.1 bt119.2.2 (bt119.2.2 != bt108.2.2) l0_0 a0_1 a0_2 bt113.1 bt113.2.1 bt113.2.2) else (laws_FnExactBestLots.j0 k bt108.1 bt108.2.1 bt108.2.2 bt119.1 bt119.2.1 bt119.2.2 true l0_0 a0_1 a0_2 bt113.1 bt113.2.1 bt113.2.2)) else (laws_FnExactBestLots.j0 k bt108.1 bt108.2.1 bt108.2.2 bt119.1 bt119.2.1 bt119.2.2 true l0_0 a0_1 a0_2 bt113.1 bt113.2.1 bt113.2.2)))))))) = some r := H; have A2 := Aside0.mk A20; clear A20; by_cases c3 : t102 < 0
  ·rw [if_pos c3] at H; have c3b0 : decide (t102 < 0) = true := decide_eq_true c3; clear c3; obtain rfl := Option.some.inj H; go_enter Try.func9, Try.ntmps9; go_wp2_with (first | ((with_reducible refine gate_dst (N := 1) rfl ?_); refine box_event ?hg (N := 1) ?hd (cs := #[.slice A0_0 l0_0.length c0_0, .int .i64 a0_1, .int .i64 a0_2]) (t := 24) ?hr ?_; (case hd => rfl); (case hg => rfl); (case hr => first | (go_simp; done) | (go_simp; rfl)); intro gb101 hg w4 hbox hb; have n0_ := Aside0.mk (Qm (by repeat (first | (with_reducible first | exact HB.out | apply Qc | apply Qa | apply Qb) | exact HB.out)) hb); have n1_ := Aside0.mk (hbox); have n2_ := Aside0.mk ((by rw [hg]; exact (Ql (by repeat (first | (with_reducible first | exact HB.out | apply Qc | apply Qa | apply Qb) | exact HB.out))) : w.heap.size ≤ gb101)); have n3_ := Aside0.mk ((by rw [hg]; exact (Ql (by repeat (first | (with_reducible first | exact HB.out | apply Qc | apply Qa | apply Qb) | exact HB.out))) : w.heap.size ≤ gb101)); clear HB; have HB := n0_; have BK101 := n1_; have GW101 := n2_; have GE101 := n3_; clear n0_ n1_ n2_ n3_; clear hb hbox hg; have hcz5_0 : w4.cell? ⟨gb101, 0, none⟩ = some (.slice A0_0 l0_0.length c0_0) := (Qd BK101.out 0).trans rfl; have hcz5_1 : w4.cell? ⟨gb101, 1, none⟩ = some (.int .i64 a0_1) := (Qd BK101.out 1).trans rfl; have hcz5_2 : w4.cell? ⟨gb101, 2, none⟩ = some (.int .i64 a0_2) := (Qd BK101.out 2).trans rfl; have hfz5_0 := Qf BK101.out 0; have hfz5_1 := Qf BK101.out 1; have hfz5_2 := Qf BK101.out 2) | ((with_reducible refine Qo (f := 15) rfl ?_); refine goesL_ (some 19) rfl rfl Try.func15 (by kernel_rfl) rfl #[.agg #[.slice A0_0 l0_0.length c0_0, .int .i64 a0_1, .int .i64 a0_2], .int .i64 1048576] rfl (by (try simp only [List.map_toArray, List.map_cons, List.map_nil]); first | done | rfl | (simp only [List.length_drop, List.length_take]; rfl)) ?_; (with_reducible refine (laws_szTrade.calls _ _ l0_0 a0_1 a0_2 1048576 t102 _ ?side1 ?side2 A2.out).mono ?_); (case side1 => repeat (first | exact (Kd.C_below HR0_0.out HB.out) | (with_reducible refine Kd.C_alloc ?_ _) | (with_reducible refine Kd.C_drewN ?_ _) | (with_reducible refine Kd.C_drew ?_))); (case side2 => exact HC0_0.out); rintro e w6 ⟨rfl, hb⟩; refine ⟨_, rfl, ?_⟩; have n0_ := Aside0.mk (Qp (g := gb101) (o := .cells #[.slice A0_0 l0_0.length c0_0, .int .i64 a0_1, .int .i64 a0_2] 24 (0, 0)) (by (with_reducible repeat (first | refine Qh ?_ _ | refine Qi ?_ | refine Qg ?_ _)); exact BK101.out) hb); have n1_ := Aside0.mk (Qm (by repeat (first | (with_reducible first | exact HB.out | apply Qc | apply Qa | apply Qb | refine Qe ?_ GE101.out) | exact HB.out)) hb); clear BK101; clear HB; have BK101 := n0_; have HB := n1_; clear n0_ n1_; (try clear hb); (try clear hb2); (try clear hk); (try clear hi)))
   go_ret
   exact ⟨by first | rfl | (simp [errW_none, errW_some] <;> rfl) | (simp [*, errW_none, errW_some] <;> rfl), by repeat (first | (with_reducible first | exact HB.out | apply Qc | apply Qa | apply Qb | refine Qe ?_ GE101.out) | exact HB.out)⟩
  ·rw [if_neg c3] at H; have c3b0 : decide (t102 < 0) = false := decide_eq_false c3; clear c3; replace H := Option.bind_eq_some_iff.mp H; obtain ⟨⟨t103, t106, t107⟩, A70, H⟩ := H; replace H : ((spec_BestLots.f k t103 t106 t107).bind fun bt108 => ((laws_toTrade.f k l0_0 a0_1 a0_2).bind fun bt113 => ((impl_BestLots.f k bt113.1 bt113.2.1 bt113.2.2).bind fun bt119 => ((laws_eqIntS.f k bt119.1 bt108.1).bind fun t124 => (if t124 = true then (if bt119.2.1 = bt108.2.1 then (laws_FnExactBestLots.j0 k bt108.1 bt108.2.1 bt108.2.2 bt119.1 bt119.2.1 bt119.2.2 (bt119.2.2 != bt108.2.2) l0_0 a0_1 a0_2 bt113.1 bt113.2.1 bt113.2.2) else (laws_FnExactBestLots.j0 k bt108.1 bt108.2.1 bt108.2.2 bt119.1 bt119.2.1 bt119.2.2 true l0_0 a0_1 a0_2 bt113.1 bt113.2.1 bt113.2.2)) else (laws_FnExactBestLots.j0 k bt108.1 bt108.2.1 bt108.2.2 bt119.1 bt119.2.1 bt119.2.2 true l0_0 a0_1 a0_2 bt113.1 bt113.2.1 bt113.2.2)))))) = some r := H; have A7 := Aside0.mk A70; clear A70; replace H := Option.bind_eq_some_iff.mp H; obtain ⟨⟨t108, t111, t112⟩, A80, H⟩ := H; replace H : ((laws_toTrade.f k l0_0 a0_1 a0_2).bind fun bt113 => ((impl_BestLots.f k bt113.1 bt113.2.1 bt113.2.2).bind fun bt119 => ((laws_eqIntS.f k bt119.1 t108).bind fun t124 => (if t124 = true then (if bt119.2.1 = t111 then (laws_FnExactBestLots.j0 k t108 t111 t112 bt119.1 bt119.2.1 bt119.2.2 (bt119.2.2 != t112) l0_0 a0_1 a0_2 bt113.1 bt113.2.1 bt113.2.2) else (laws_FnExactBestLots.j0 k t108 t111 t112 bt119.1 bt119.2.1 bt119.2.2 true l0_0 a0_1 a0_2 bt113.1 bt113.2.1 bt113.2.2)) else (laws_FnExactBestLots.j0 k t108 t111 t112 bt119.1 bt119.2.1 bt119.2.2 true l0_0 a0_1 a0_2 bt113.1 bt113.2.1 bt113.2.2))))) = some r := H; have A8 := Aside0.mk A80; clear A80; replace H := Option.bind_eq_some_iff.mp H; obtain ⟨⟨t113, t116, t117⟩, A90, H⟩ := H; replace H : ((impl_BestLots.f k t113 t116 t117).bind fun bt119 => ((laws_eqIntS.f k bt119.1 t108).bind fun t124 => (if t124 = true then (if bt119.2.1 = t111 then (laws_FnExactBestLots.j0 k t108 t111 t112 bt119.1 bt119.2.1 bt119.2.2 (bt119.2.2 != t112) l0_0 a0_1 a0_2 t113 t116 t117) else (laws_FnExactBestLots.j0 k t108 t111 t112 bt119.1 bt119.2.1 bt119.2.2 true l0_0 a0_1 a0_2 t113 t116 t117)) else (laws_FnExactBestLots.j0 k t108 t111 t112 bt119.1 bt119.2.1 bt119.2.2 true l0_0 a0_1 a0_2 t113 t116 t117)))) = some r := H; have A9 := Aside0.mk A90; clear A90; replace H := Option.bind_eq_some_iff.mp H; obtain ⟨⟨t119, t122, t123⟩, A100, H⟩ := H; replace H : ((laws_eqIntS.f k t119 t108).bind fun t124 => (if t124 = true then (if t122 = t111 then (laws_FnExactBestLots.j0 k t108 t111 t112 t119 t122 t123 (t123 != t112) l0_0 a0_1 a0_2 t113 t116 t117) else (laws_FnExactBestLots.j0 k t108 t111 t112 t119 t122 t123 true l0_0 a0_1 a0_2 t113 t116 t117)) else (laws_FnExactBestLots.j0 k t108 t111 t112 t119 t122 t123 true l0_0 a0_1 a0_2 t113 t116 t117))) = some r := H; have A10 := Aside0.mk A100; clear A100; have HC11 := Aside0.mk H; clear H; go_enter Try.func9, Try.ntmps9
   go_upto_region 8 with (first | ((with_reducible refine gate_dst (N := 1) rfl ?_); refine box_event ?hg (N := 1) ?hd (cs := #[.slice A0_0 l0_0.length c0_0, .int .i64 a0_1, .int .i64 a0_2]) (t := 24) ?hr ?_; (case hd => rfl); (case hg => rfl); (case hr => first | (go_simp; done) | (go_simp; rfl)); intro gb101 hg w12 hbox hb; have n0_ := Aside0.mk (Qm (by repeat (first | (with_reducible first | exact HB.out | apply Qc | apply Qa | apply Qb) | exact HB.out)) hb); have n1_ := Aside0.mk (hbox); have n2_ := Aside0.mk ((by rw [hg]; exact (Ql (by repeat (first | (with_reducible first | exact HB.out | apply Qc | apply Qa | apply Qb) | exact HB.out))) : w.heap.size ≤ gb101)); have n3_ := Aside0.mk ((by rw [hg]; exact (Ql (by repeat (first | (with_reducible first | exact HB.out | apply Qc | apply Qa | apply Qb) | exact HB.out))) : w.heap.size ≤ gb101)); clear HB; have HB := n0_; have BK101 := n1_; have GW101 := n2_; have GE101 := n3_; clear n0_ n1_ n2_ n3_; clear hb hbox hg; have hcz13_0 : w12.cell? ⟨gb101, 0, none⟩ = some (.slice A0_0 l0_0.length c0_0) := (Qd BK101.out 0).trans rfl; have hcz13_1 : w12.cell? ⟨gb101, 1, none⟩ = some (.int .i64 a0_1) := (Qd BK101.out 1).trans rfl; have hcz13_2 : w12.cell? ⟨gb101, 2, none⟩ = some (.int .i64 a0_2) := (Qd BK101.out 2).trans rfl; have hfz13_0 := Qf BK101.out 0; have hfz13_1 := Qf BK101.out 1; have hfz13_2 := Qf BK101.out 2) | ((with_reducible refine Qo (f := 15) rfl ?_); refine goesL_ (some 19) rfl rfl Try.func15 (by kernel_rfl) rfl #[.agg #[.slice A0_0 l0_0.length c0_0, .int .i64 a0_1, .int .i64 a0_2], .int .i64 1048576] rfl (by (try simp only [List.map_toArray, List.map_cons, List.map_nil]); first | done | rfl | (simp only [List.length_drop, List.length_take]; rfl)) ?_; (with_reducible refine (laws_szTrade.calls _ _ l0_0 a0_1 a0_2 1048576 t102 _ ?side1 ?side2 A2.out).mono ?_); (case side1 => repeat (first | exact (Kd.C_below HR0_0.out HB.out) | (with_reducible refine Kd.C_alloc ?_ _) | (with_reducible refine Kd.C_drewN ?_ _) | (with_reducible refine Kd.C_drew ?_))); (case side2 => exact HC0_0.out); rintro e w14 ⟨rfl, hb⟩; refine ⟨_, rfl, ?_⟩; have n0_ := Aside0.mk (Qp (g := gb101) (o := .cells #[.slice A0_0 l0_0.length c0_0, .int .i64 a0_1, .int .i64 a0_2] 24 (0, 0)) (by (with_reducible repeat (first | refine Qh ?_ _ | refine Qi ?_ | refine Qg ?_ _)); exact BK101.out) hb); have n1_ := Aside0.mk (Qm (by repeat (first | (with_reducible first | exact HB.out | apply Qc | apply Qa | apply Qb | refine Qe ?_ GE101.out) | exact HB.out)) hb); clear BK101; clear HB; have BK101 := n0_; have HB := n1_; clear n0_ n1_; (try clear hb); (try clear hb2); (try clear hk); (try clear hi); have hcz15_0 : w14.cell? ⟨gb101, 0, none⟩ = some (.slice A0_0 l0_0.length c0_0) := (Qd BK101.out 0).trans rfl; have hcz15_1 : w14.cell? ⟨gb101, 1, none⟩ = some (.int .i64 a0_1) := (Qd BK101.out 1).trans rfl; have hcz15_2 : w14.cell? ⟨gb101, 2, none⟩ = some (.int .i64 a0_2) := (Qd BK101.out 2).trans rfl; have hfz15_0 := Qf BK101.out 0; have hfz15_1 := Qf BK101.out 1; have hfz15_2 := Qf BK101.out 2) | ((with_reducible refine Qo (f := 17) rfl ?_); refine goesL_ (some 24) rfl rfl Try.func17 (by kernel_rfl) rfl #[.agg #[.slice A0_0 l0_0.length c0_0, .int .i64 a0_1, .int .i64 a0_2]] rfl (by (try simp only [List.map_toArray, List.map_cons, List.map_nil]); first | done | rfl | (simp only [List.length_drop, List.length_take]; rfl)) ?_; (with_reducible refine (laws_toTrade.calls k _ _ l0_0 a0_1 a0_2 t103 t106 t107 _ ?side1 ?side2 A7.out).mono ?_); (case side1 => repeat (first | exact (Kd.C_below HR0_0.out HB.out) | (with_reducible refine Kd.C_alloc ?_ _) | (with_reducible refine Kd.C_drewN ?_ _) | (with_reducible refine Kd.C_drew ?_))); (case side2 => exact HC0_0.out); rintro e w16 ⟨v104, rfl, ho0, hb⟩; refine ⟨_, rfl, ?_⟩; have n0_ := Aside0.mk (Kd.R_lower ho0 (Ql (by repeat (first | (with_reducible first | exact HB.out | apply Qc | apply Qa | apply Qb | refine Qe ?_ GE101.out) | exact HB.out)))); have n1_ := Aside0.mk (Qp (g := gb101) (o := .cells #[.slice A0_0 l0_0.length c0_0, .int .i64 a0_1, .int .i64 a0_2] 24 (0, 0)) (by (with_reducible repeat (first | refine Qh ?_ _ | refine Qi ?_ | refine Qg ?_ _)); exact BK101.out) hb); have n2_ := Aside0.mk (Qm (by repeat (first | (with_reducible first | exact HB.out | apply Qc | apply Qa | apply Qb | refine Qe ?_ GE101.out) | exact HB.out)) hb); clear BK101; clear HB; have HO105 := n0_; have BK101 := n1_; have HB := n2_; clear n0_ n1_ n2_; (try clear hb); (try clear hb2); (try clear hk); (try clear hi); (try clear ho0); obtain ⟨Ao17, co17, eo17⟩ := Kd.R_slice HO105.out; subst eo17) | ((with_reducible refine Qo (f := 50) rfl ?_); refine goesL_ (some 25) rfl rfl Try.func50 (by kernel_rfl) rfl #[.agg #[.slice Ao17 t103.length co17, .int .i64 t106, .int .i64 t107]] rfl (by (try simp only [List.map_toArray, List.map_cons, List.map_nil]); first | done | rfl | (simp only [List.length_drop, List.length_take]; rfl)) ?_; (with_reducible refine (spec_BestLots.calls k _ _ t103 t106 t107 t108 t111 t112 _ ?side1 ?side2 A8.out).mono ?_); (case side1 => repeat (first | exact (Kd.Qn HO105.out).2.2 | (with_reducible refine Kd.C_alloc ?_ _) | (with_reducible refine Kd.C_drewN ?_ _) | (with_reducible refine Kd.C_drew ?_))); (case side2 => exact (Kd.Qn HO105.out).2.1); rintro e w18 ⟨v109, rfl, ho0, hb⟩; refine ⟨_, rfl, ?_⟩; have n0_ := Aside0.mk (Kd.R_elder' (by (with_reducible repeat (first | apply Kd.Qj | apply Kd.Qk | apply Kd.R_drew)); exact HO105.out) (Kd.R_base ho0) hb); have n1_ := Aside0.mk (Kd.R_lower (Kd.R_new' ho0 (Kd.R_lt (by (with_reducible repeat (first | apply Kd.Qj | apply Kd.Qk | apply Kd.R_drew)); exact HO105.out))) (Ql (by repeat (first | (with_reducible first | exact HB.out | apply Qc | apply Qa | apply Qb | refine Qe ?_ GE101.out) | exact HB.out)))); have n2_ := Aside0.mk (Qp (g := gb101) (o := .cells #[.slice A0_0 l0_0.length c0_0, .int .i64 a0_1, .int .i64 a0_2] 24 (0, 0)) (by (with_reducible repeat (first | refine Qh ?_ _ | refine Qi ?_ | refine Qg ?_ _)); exact BK101.out) hb); have n3_ := Aside0.mk (Qm (by repeat (first | (with_reducible first | exact HB.out | apply Qc | apply Qa | apply Qb | refine Qe ?_ GE101.out) | exact HB.out)) hb); clear HO105; clear BK101; clear HB; have HO105 := n0_; have HO110 := n1_; have BK101 := n2_; have HB := n3_; clear n0_ n1_ n2_ n3_; (try clear hb); (try clear hb2); (try clear hk); (try clear hi); (try clear ho0); have hcz19_0 : w18.cell? ⟨gb101, 0, none⟩ = some (.slice A0_0 l0_0.length c0_0) := (Qd BK101.out 0).trans rfl; have hcz19_1 : w18.cell? ⟨gb101, 1, none⟩ = some (.int .i64 a0_1) := (Qd BK101.out 1).trans rfl; have hcz19_2 : w18.cell? ⟨gb101, 2, none⟩ = some (.int .i64 a0_2) := (Qd BK101.out 2).trans rfl; have hfz19_0 := Qf BK101.out 0; have hfz19_1 := Qf BK101.out 1; have hfz19_2 := Qf BK101.out 2) | ((with_reducible refine Qo (f := 17) rfl ?_); refine goesL_ (some 30) rfl rfl Try.func17 (by kernel_rfl) rfl #[.agg #[.slice A0_0 l0_0.length c0_0, .int .i64 a0_1, .int .i64 a0_2]] rfl (by (try simp only [List.map_toArray, List.map_cons, List.map_nil]); first | done | rfl | (simp only [List.length_drop, List.length_take]; rfl)) ?_; (with_reducible refine (laws_toTrade.calls k _ _ l0_0 a0_1 a0_2 t113 t116 t117 _ ?side1 ?side2 A9.out).mono ?_); (case side1 => repeat (first | exact (Kd.C_below HR0_0.out HB.out) | (with_reducible refine Kd.C_alloc ?_ _) | (with_reducible refine Kd.C_drewN ?_ _) | (with_reducible refine Kd.C_drew ?_))); (case side2 => exact HC0_0.out); rintro e w20 ⟨v114, rfl, ho0, hb⟩; refine ⟨_, rfl, ?_⟩; have n0_ := Aside0.mk (Kd.R_elder' (by (with_reducible repeat (first | apply Kd.Qj | apply Kd.Qk | apply Kd.R_drew)); exact HO105.out) (Kd.R_base ho0) hb); have n1_ := Aside0.mk (Kd.R_elder' (by (with_reducible repeat (first | apply Kd.Qj | apply Kd.Qk | apply Kd.R_drew)); exact HO110.out) (Kd.R_base ho0) hb); have n2_ := Aside0.mk (Kd.R_lower (Kd.R_new' (Kd.R_new' ho0 (Kd.R_lt (by (with_reducible repeat (first | apply Kd.Qj | apply Kd.Qk | apply Kd.R_drew)); exact HO105.out))) (Kd.R_lt (by (with_reducible repeat (first | apply Kd.Qj | apply Kd.Qk | apply Kd.R_drew)); exact HO110.out))) (Ql (by repeat (first | (with_reducible first | exact HB.out | apply Qc | apply Qa | apply Qb | refine Qe ?_ GE101.out) | exact HB.out)))); have n3_ := Aside0.mk (Qp (g := gb101) (o := .cells #[.slice A0_0 l0_0.length c0_0, .int .i64 a0_1, .int .i64 a0_2] 24 (0, 0)) (by (with_reducible repeat (first | refine Qh ?_ _ | refine Qi ?_ | refine Qg ?_ _)); exact BK101.out) hb); have n4_ := Aside0.mk (Qm (by repeat (first | (with_reducible first | exact HB.out | apply Qc | apply Qa | apply Qb | refine Qe ?_ GE101.out) | exact HB.out)) hb); clear HO105; clear HO110; clear BK101; clear HB; have HO105 := n0_; have HO110 := n1_; have HO115 := n2_; have BK101 := n3_; have HB := n4_; clear n0_ n1_ n2_ n3_ n4_; (try clear hb); (try clear hb2); (try clear hk); (try clear hi); (try clear ho0)) | ((with_reducible refine gate_dst (N := 7) rfl ?_); refine box_event ?hg (N := 7) ?hd (cs := #[.slice none 0 0, .int .i64 0, .int .i64 0]) (t := 28) ?hr ?_; (case hd => rfl); (case hg => rfl); (case hr => first | (go_simp; done) | (go_simp; rfl)); intro gb118 hg w21 hbox hb; have n0_ := Aside0.mk (Kd.R_below (by (with_reducible repeat (first | apply Kd.Qj | apply Kd.Qk | apply Kd.R_drew)); exact HO105.out) hb); have n1_ := Aside0.mk (Kd.R_below (by (with_reducible repeat (first | apply Kd.Qj | apply Kd.Qk | apply Kd.R_drew)); exact HO110.out) hb); have n2_ := Aside0.mk (Kd.R_below (by (with_reducible repeat (first | apply Kd.Qj | apply Kd.Qk | apply Kd.R_drew)); exact HO115.out) hb); have n3_ := Aside0.mk (Qp (g := gb101) (o := .cells #[.slice A0_0 l0_0.length c0_0, .int .i64 a0_1, .int .i64 a0_2] 24 (0, 0)) (by (with_reducible repeat (first | refine Qh ?_ _ | refine Qi ?_ | refine Qg ?_ _)); exact BK101.out) hb); have n4_ := Aside0.mk (Qm (by repeat (first | (with_reducible first | exact HB.out | apply Qc | apply Qa | apply Qb | refine Qe ?_ GE101.out) | exact HB.out)) hb); have n5_ := Aside0.mk (hbox); have n6_ := Aside0.mk ((by rw [hg]; exact (Ql (by repeat (first | (with_reducible first | exact HB.out | apply Qc | apply Qa | apply Qb | refine Qe ?_ GE101.out) | exact HB.out))) : w.heap.size ≤ gb118)); have n7_ := Aside0.mk ((by rw [hg]; exact (Ql (by repeat (first | (with_reducible first | exact HB.out | apply Qc | apply Qa | apply Qb | refine Qe ?_ GE101.out) | exact HB.out))) : w.heap.size ≤ gb118)); have n8_ := Aside0.mk ((by rw [hg]; exact Nat.ne_of_lt (blk_lt (g := gb101) (o := .cells #[.slice A0_0 l0_0.length c0_0, .int .i64 a0_1, .int .i64 a0_2] 24 (0, 0)) (by (with_reducible repeat (first | refine Qh ?_ _ | refine Qi ?_ | refine Qg ?_ _)); exact BK101.out)) : gb101 ≠ gb118)); have n9_ := Aside0.mk ((by rw [hg]; exact Nat.ne_of_gt (blk_lt (g := gb101) (o := .cells #[.slice A0_0 l0_0.length c0_0, .int .i64 a0_1, .int .i64 a0_2] 24 (0, 0)) (by (with_reducible repeat (first | refine Qh ?_ _ | refine Qi ?_ | refine Qg ?_ _)); exact BK101.out)) : gb118 ≠ gb101)); clear HO105; clear HO110; clear HO115; clear BK101; clear HB; have HO105 := n0_; have HO110 := n1_; have HO115 := n2_; have BK101 := n3_; have HB := n4_; have BK118 := n5_; have GW118 := n6_; have GE118 := n7_; have NB101_118 := n8_; have NB118_101 := n9_; clear n0_ n1_ n2_ n3_ n4_ n5_ n6_ n7_ n8_ n9_; clear hb hbox hg; obtain ⟨Ao22, co22, eo22⟩ := Kd.R_slice HO115.out; subst eo22; have hnb23 := NB118_101.out; have hnc23 := NB101_118.out; have hcz24_0 : w21.cell? ⟨gb118, 0, none⟩ = some (.slice none 0 0) := (Qd BK118.out 0).trans rfl; have hcz24_1 : w21.cell? ⟨gb118, 1, none⟩ = some (.int .i64 0) := (Qd BK118.out 1).trans rfl; have hcz24_2 : w21.cell? ⟨gb118, 2, none⟩ = some (.int .i64 0) := (Qd BK118.out 2).trans rfl; have hfz24_0 := Qf BK118.out 0; have hfz24_1 := Qf BK118.out 1; have hfz24_2 := Qf BK118.out 2) | ((with_reducible refine Qo (f := 51) rfl ?_); refine goesL_ (some 33) rfl rfl Try.func51 (by kernel_rfl) rfl #[.agg #[.slice Ao22 t113.length co22, .int .i64 t116, .int .i64 t117]] rfl (by (try simp only [List.map_toArray, List.map_cons, List.map_nil]); first | done | rfl | (simp only [List.length_drop, List.length_take]; rfl)) ?_; (with_reducible refine (impl_BestLots.calls k _ _ t113 t116 t117 t119 t122 t123 _ ?side1 ?side2 A10.out).mono ?_); (case side1 => refine (Kd.Qn (e := 3) (base := w.heap.size) (ok := fun k_ => ((True ∧ some k_ ≠ (.slice Ao17 t103.length co17 : Value).ownBlock) ∧ some k_ ≠ (v109 : Value).ownBlock)) (n := t113.length) (c := co22) ?_).2.2; exact (by (with_reducible repeat (first | apply Kd.Qj | apply Kd.Qk | apply Kd.R_drew)); exact (Kd.R_mono (Kd.R_far (p := ⟨gb118, 2, none⟩) (Kd.R_far (p := ⟨gb118, 1, none⟩) (Kd.R_far (p := ⟨gb118, 0, none⟩) (Kd.R_types HO115.out BK118.out (by decide)) (fun _ hk => hk.2) (.slice Ao22 t113.length co22)) (fun _ hk => hk.2) (.int .i64 t116)) (fun _ hk => hk.2) (.int .i64 t117)) (fun _ h_ => h_.1)))); (case side2 => exact (Kd.Qn HO115.out).2.1); rintro e w25 ⟨v120, rfl, ho0, hb⟩; refine ⟨_, rfl, ?_⟩; have n0_ := Aside0.mk (Kd.R_elder' (by (with_reducible repeat (first | apply Kd.Qj | apply Kd.Qk | apply Kd.R_drew)); exact (Kd.R_mono (Kd.R_far (p := ⟨gb118, 2, none⟩) (Kd.R_far (p := ⟨gb118, 1, none⟩) (Kd.R_far (p := ⟨gb118, 0, none⟩) (Kd.R_types HO105.out BK118.out (by decide)) (fun _ hk => hk.2) (.slice Ao22 t113.length co22)) (fun _ hk => hk.2) (.int .i64 t116)) (fun _ hk => hk.2) (.int .i64 t117)) (fun _ h_ => h_.1))) (Kd.R_base ho0) hb); have n1_ := Aside0.mk (Kd.R_elder' (by (with_reducible repeat (first | apply Kd.Qj | apply Kd.Qk | apply Kd.R_drew)); exact (Kd.R_mono (Kd.R_far (p := ⟨gb118, 2, none⟩) (Kd.R_far (p := ⟨gb118, 1, none⟩) (Kd.R_far (p := ⟨gb118, 0, none⟩) (Kd.R_types HO110.out BK118.out (by decide)) (fun _ hk => hk.2) (.slice Ao22 t113.length co22)) (fun _ hk => hk.2) (.int .i64 t116)) (fun _ hk => hk.2) (.int .i64 t117)) (fun _ h_ => h_.1))) (Kd.R_base ho0) hb); have n2_ := Aside0.mk (Kd.R_elder' (by (with_reducible repeat (first | apply Kd.Qj | apply Kd.Qk | apply Kd.R_drew)); exact (Kd.R_mono (Kd.R_far (p := ⟨gb118, 2, none⟩) (Kd.R_far (p := ⟨gb118, 1, none⟩) (Kd.R_far (p := ⟨gb118, 0, none⟩) (Kd.R_types HO115.out BK118.out (by decide)) (fun _ hk => hk.2) (.slice Ao22 t113.length co22)) (fun _ hk => hk.2) (.int .i64 t116)) (fun _ hk => hk.2) (.int .i64 t117)) (fun _ h_ => h_.1))) (Kd.R_base ho0) hb); have n3_ := Aside0.mk (Kd.R_lower (Kd.R_new' (Kd.R_new' (Kd.R_new' ho0 (Kd.R_lt (by (with_reducible repeat (first | apply Kd.Qj | apply Kd.Qk | apply Kd.R_drew)); exact (Kd.R_mono (Kd.R_far (p := ⟨gb118, 2, none⟩) (Kd.R_far (p := ⟨gb118, 1, none⟩) (Kd.R_far (p := ⟨gb118, 0, none⟩) (Kd.R_types HO105.out BK118.out (by decide)) (fun _ hk => hk.2) (.slice Ao22 t113.length co22)) (fun _ hk => hk.2) (.int .i64 t116)) (fun _ hk => hk.2) (.int .i64 t117)) (fun _ h_ => h_.1))))) (Kd.R_lt (by (with_reducible repeat (first | apply Kd.Qj | apply Kd.Qk | apply Kd.R_drew)); exact (Kd.R_mono (Kd.R_far (p := ⟨gb118, 2, none⟩) (Kd.R_far (p := ⟨gb118, 1, none⟩) (Kd.R_far (p := ⟨gb118, 0, none⟩) (Kd.R_types HO110.out BK118.out (by decide)) (fun _ hk => hk.2) (.slice Ao22 t113.length co22)) (fun _ hk => hk.2) (.int .i64 t116)) (fun _ hk => hk.2) (.int .i64 t117)) (fun _ h_ => h_.1))))) (Kd.R_lt (by (with_reducible repeat (first | apply Kd.Qj | apply Kd.Qk | apply Kd.R_drew)); exact (Kd.R_mono (Kd.R_far (p := ⟨gb118, 2, none⟩) (Kd.R_far (p := ⟨gb118, 1, none⟩) (Kd.R_far (p := ⟨gb118, 0, none⟩) (Kd.R_types HO115.out BK118.out (by decide)) (fun _ hk => hk.2) (.slice Ao22 t113.length co22)) (fun _ hk => hk.2) (.int .i64 t116)) (fun _ hk => hk.2) (.int .i64 t117)) (fun _ h_ => h_.1))))) (Ql (by repeat (first | (with_reducible first | exact HB.out | apply Qc | apply Qa | apply Qb | refine Qe ?_ GE101.out | refine Qe ?_ GE118.out) | exact HB.out)))); have n4_ := Aside0.mk (Qp (g := gb101) (o := .cells #[.slice A0_0 l0_0.length c0_0, .int .i64 a0_1, .int .i64 a0_2] 24 (0, 0)) (by (with_reducible repeat (first | refine Qh ?_ _ | refine Qi ?_ | refine Qg ?_ _)); refine blk_far ?_ NB101_118.out _; (with_reducible repeat (first | refine Qh ?_ _ | refine Qi ?_ | refine Qg ?_ _)); refine blk_far ?_ NB101_118.out _; (with_reducible repeat (first | refine Qh ?_ _ | refine Qi ?_ | refine Qg ?_ _)); refine blk_far ?_ NB101_118.out _; (with_reducible repeat (first | refine Qh ?_ _ | refine Qi ?_ | refine Qg ?_ _)); exact BK101.out) hb); have n5_ := Aside0.mk (Qp (g := gb118) (o := .cells #[.slice Ao22 t113.length co22, .int .i64 t116, .int .i64 t117] 28 (0, 0)) (by (with_reducible repeat (first | refine Qh ?_ _ | refine Qi ?_ | refine Qg ?_ _)); refine blk_put (cs := #[.slice Ao22 t113.length co22, .int .i64 t116, .int .i64 0]) ?_ 2 _ rfl; (with_reducible repeat (first | refine Qh ?_ _ | refine Qi ?_ | refine Qg ?_ _)); refine blk_put (cs := #[.slice Ao22 t113.length co22, .int .i64 0, .int .i64 0]) ?_ 1 _ rfl; (with_reducible repeat (first | refine Qh ?_ _ | refine Qi ?_ | refine Qg ?_ _)); refine blk_put (cs := #[.slice none 0 0, .int .i64 0, .int .i64 0]) ?_ 0 _ rfl; (with_reducible repeat (first | refine Qh ?_ _ | refine Qi ?_ | refine Qg ?_ _)); exact BK118.out) hb); have n6_ := Aside0.mk (Qm (by repeat (first | (with_reducible first | exact HB.out | apply Qc | apply Qa | apply Qb | refine Qe ?_ GE101.out | refine Qe ?_ GE118.out) | exact HB.out)) hb); clear HO105; clear HO110; clear HO115; clear BK101; clear BK118; clear HB; have HO105 := n0_; have HO110 := n1_; have HO115 := n2_; have HO121 := n3_; have BK101 := n4_; have BK118 := n5_; have HB := n6_; clear n0_ n1_ n2_ n3_ n4_ n5_ n6_; (try clear hb); (try clear hb2); (try clear hk); (try clear hi); (try clear ho0)))
   (try simp only [Act.put, List.setIfInBounds_toArray, List.set_cons_zero, List.set_cons_succ])
   go_cut [50] (fun v50 wc => ∃ (kq : Nat) (x50_10 : Bool), v50 = .bool x50_10 ∧ Aside0 (laws_FnExactBestLots.j0 kq t108 t111 t112 t119 t122 t123 x50_10 l0_0 a0_1 a0_2 t113 t116 t117 = some r) ∧ Aside0 (kq ≤ k) ∧ Aside0 (Kd.R (Kd.int .i64) 3 wc w.heap.size (fun k_ => some k_ ≠ (v120 : Value).ownBlock ∧ some k_ ≠ ((.slice Ao22 t113.length co22) : Value).ownBlock) v109 t108) ∧ Aside0 (Kd.R (Kd.int .i64) 3 wc w.heap.size (fun k_ => some k_ ≠ (v109 : Value).ownBlock ∧ some k_ ≠ ((.slice Ao22 t113.length co22) : Value).ownBlock) v120 t119) ∧ Aside0 (Kd.R (Kd.int .i64) 3 wc w.heap.size (fun k_ => some k_ ≠ (v109 : Value).ownBlock ∧ some k_ ≠ (v120 : Value).ownBlock) (.slice Ao22 t113.length co22) t113) ∧ Aside0 (wc.heap[gb101]? = some (.cells #[(.slice A0_0 l0_0.length c0_0), .int .i64 a0_1, .int .i64 a0_2] 24 (0, 0))) ∧ Aside0 (wc.heap[gb118]? = some (.cells #[(.slice Ao22 t113.length co22), .int .i64 t116, .int .i64 t117] 28 (0, 0))) ∧ Aside0 (Below w.heap.size w wc))
   case first =>
    have H := HC11.out; clear HC11; replace H := Option.bind_eq_some_iff.mp H; obtain ⟨t124, A260, H⟩ := H; replace H : (if t124 = true then (if t122 = t111 then (laws_FnExactBestLots.j0 k t108 t111 t112 t119 t122 t123 (t123 != t112) l0_0 a0_1 a0_2 t113 t116 t117) else (laws_FnExactBestLots.j0 k t108 t111 t112 t119 t122 t123 true l0_0 a0_1 a0_2 t113 t116 t117)) else (laws_FnExactBestLots.j0 k t108 t111 t112 t119 t122 t123 true l0_0 a0_1 a0_2 t113 t116 t117)) = some r := H; have A26 := Aside0.mk A260; clear A260; by_cases c27 : t124 = true
    ·subst c27; have H1 : (if t122 = t111 then (laws_FnExactBestLots.j0 k t108 t111 t112 t119 t122 t123 (t123 != t112) l0_0 a0_1 a0_2 t113 t116 t117) else (laws_FnExactBestLots.j0 k t108 t111 t112 t119 t122 t123 true l0_0 a0_1 a0_2 t113 t116 t117)) = some r := by rw [if_pos rfl] at H; exact H
     clear H; have H := H1; clear H1; by_cases c28 : t122 = t111
     ·rw [if_pos c28] at H; have c28b0 : (t122 == t111) = true := beq_iff_eq.mpr c28; have c28b1 : (t122 != t111) = false := bne_eq_false_iff_eq.mpr c28; clear c28
      (first | rw [c28b0] | (simp only [i64_w, i32_w]; rw [c28b0]) | skip)
      have H' := Aside0.mk H; clear H; obtain ⟨Ao29, co29, eo29⟩ := Kd.R_slice HO121.out; subst eo29; obtain ⟨Ao30, co30, eo30⟩ := Kd.R_slice HO110.out; subst eo30; go_wp2_with (first | ((with_reducible refine Qo (f := 21) rfl ?_); refine goesL_ (some 39) rfl rfl Try.func21 (by kernel_rfl) rfl #[.slice Ao29 t119.length co29, .slice Ao30 t108.length co30] rfl (by (try simp only [List.map_toArray, List.map_cons, List.map_nil]); first | done | rfl | (simp only [List.length_drop, List.length_take]; rfl)) ?_; (with_reducible refine (laws_eqIntS.calls k _ _ t119 _ _ t108 true _ ?side1 ?side2 ?side3 ?side4 A26.out).mono ?_); (case side1 => repeat (first | exact (Kd.Qn HO121.out).2.2 | (with_reducible refine Kd.C_alloc ?_ _) | (with_reducible refine Kd.C_drewN ?_ _) | (with_reducible refine Kd.C_drew ?_))); (case side2 => exact (Kd.Qn HO121.out).2.1); (case side3 => repeat (first | exact (Kd.Qn HO110.out).2.2 | (with_reducible refine Kd.C_alloc ?_ _) | (with_reducible refine Kd.C_drewN ?_ _) | (with_reducible refine Kd.C_drew ?_))); (case side4 => exact (Kd.Qn HO110.out).2.1); rintro e w' ⟨rfl, ⟨nd, rfl⟩⟩; refine ⟨_, rfl, ?_⟩))
      go_meet
      case rel => exact ⟨_, ((t123 != t112)), (by first | rfl | (simp; done) | (simp [*]; done)), H', ⟨by first | omega | exact Nat.le_refl _⟩, ⟨by (with_reducible repeat (first | apply Kd.Qj | apply Kd.Qk | apply Kd.R_drew)); exact Kd.R_mono HO110.out (fun _ hk => ⟨hk.2, hk.1.2⟩)⟩, ⟨by (with_reducible repeat (first | apply Kd.Qj | apply Kd.Qk | apply Kd.R_drew)); exact Kd.R_mono HO121.out (fun _ hk => ⟨hk.1.2, hk.2⟩)⟩, ⟨by (with_reducible repeat (first | apply Kd.Qj | apply Kd.Qk | apply Kd.R_drew)); exact Kd.R_mono HO115.out (fun _ hk => ⟨hk.1.2, hk.2⟩)⟩, ⟨by (with_reducible repeat (first | refine Qh ?_ _ | refine Qi ?_ | refine Qg ?_ _)); exact BK101.out⟩, ⟨by (with_reducible repeat (first | refine Qh ?_ _ | refine Qi ?_ | refine Qg ?_ _)); exact BK118.out⟩, ⟨by repeat (first | (with_reducible first | exact HB.out | apply Qc | apply Qa | apply Qb | refine Qe ?_ GE101.out | refine Qe ?_ GE118.out) | exact HB.out)⟩⟩
     ·rw [if_neg c28] at H; have c28b0 : (t122 == t111) = false := beq_eq_false_iff_ne.mpr c28; have c28b1 : (t122 != t111) = true := bne_iff_ne.mpr c28
      (first | rw [c28b0] | (simp only [i64_w, i32_w]; rw [c28b0]) | skip)
      have H' := Aside0.mk H; clear H; obtain ⟨Ao31, co31, eo31⟩ := Kd.R_slice HO121.out; subst eo31; obtain ⟨Ao32, co32, eo32⟩ := Kd.R_slice HO110.out; subst eo32; go_wp2_with (first | ((with_reducible refine Qo (f := 21) rfl ?_); refine goesL_ (some 39) rfl rfl Try.func21 (by kernel_rfl) rfl #[.slice Ao31 t119.length co31, .slice Ao32 t108.length co32] rfl (by (try simp only [List.map_toArray, List.map_cons, List.map_nil]); first | done | rfl | (simp only [List.length_drop, List.length_take]; rfl)) ?_; (with_reducible refine (laws_eqIntS.calls k _ _ t119 _ _ t108 true _ ?side1 ?side2 ?side3 ?side4 A26.out).mono ?_); (case side1 => repeat (first | exact (Kd.Qn HO121.out).2.2 | (with_reducible refine Kd.C_alloc ?_ _) | (with_reducible refine Kd.C_drewN ?_ _) | (with_reducible refine Kd.C_drew ?_))); (case side2 => exact (Kd.Qn HO121.out).2.1); (case side3 => repeat (first | exact (Kd.Qn HO110.out).2.2 | (with_reducible refine Kd.C_alloc ?_ _) | (with_reducible refine Kd.C_drewN ?_ _) | (with_reducible refine Kd.C_drew ?_))); (case side4 => exact (Kd.Qn HO110.out).2.1); rintro e w' ⟨rfl, ⟨nd, rfl⟩⟩; refine ⟨_, rfl, ?_⟩))
      go_meet
      case rel => exact ⟨_, (true), (by first | rfl | (simp; done) | (simp [*]; done)), H', ⟨by first | omega | exact Nat.le_refl _⟩, ⟨by (with_reducible repeat (first | apply Kd.Qj | apply Kd.Qk | apply Kd.R_drew)); exact Kd.R_mono HO110.out (fun _ hk => ⟨hk.2, hk.1.2⟩)⟩, ⟨by (with_reducible repeat (first | apply Kd.Qj | apply Kd.Qk | apply Kd.R_drew)); exact Kd.R_mono HO121.out (fun _ hk => ⟨hk.1.2, hk.2⟩)⟩, ⟨by (with_reducible repeat (first | apply Kd.Qj | apply Kd.Qk | apply Kd.R_drew)); exact Kd.R_mono HO115.out (fun _ hk => ⟨hk.1.2, hk.2⟩)⟩, ⟨by (with_reducible repeat (first | refine Qh ?_ _ | refine Qi ?_ | refine Qg ?_ _)); exact BK101.out⟩, ⟨by (with_reducible repeat (first | refine Qh ?_ _ | refine Qi ?_ | refine Qg ?_ _)); exact BK118.out⟩, ⟨by repeat (first | (with_reducible first | exact HB.out | apply Qc | apply Qa | apply Qb | refine Qe ?_ GE101.out | refine Qe ?_ GE118.out) | exact HB.out)⟩⟩
    ·replace c27 := Bool.eq_false_iff.mpr c27; subst c27; have H1 : (laws_FnExactBestLots.j0 k t108 t111 t112 t119 t122 t123 true l0_0 a0_1 a0_2 t113 t116 t117) = some r := by rw [if_neg (show ¬ (false = true) by decide)] at H; exact H
     clear H; have H := H1; clear H1; have H' := Aside0.mk H; clear H; obtain ⟨Ao33, co33, eo33⟩ := Kd.R_slice HO121.out; subst eo33; obtain ⟨Ao34, co34, eo34⟩ := Kd.R_slice HO110.out; subst eo34; go_wp2_with (first | ((with_reducible refine Qo (f := 21) rfl ?_); refine goesL_ (some 39) rfl rfl Try.func21 (by kernel_rfl) rfl #[.slice Ao33 t119.length co33, .slice Ao34 t108.length co34] rfl (by (try simp only [List.map_toArray, List.map_cons, List.map_nil]); first | done | rfl | (simp only [List.length_drop, List.length_take]; rfl)) ?_; (with_reducible refine (laws_eqIntS.calls k _ _ t119 _ _ t108 false _ ?side1 ?side2 ?side3 ?side4 A26.out).mono ?_); (case side1 => repeat (first | exact (Kd.Qn HO121.out).2.2 | (with_reducible refine Kd.C_alloc ?_ _) | (with_reducible refine Kd.C_drewN ?_ _) | (with_reducible refine Kd.C_drew ?_))); (case side2 => exact (Kd.Qn HO121.out).2.1); (case side3 => repeat (first | exact (Kd.Qn HO110.out).2.2 | (with_reducible refine Kd.C_alloc ?_ _) | (with_reducible refine Kd.C_drewN ?_ _) | (with_reducible refine Kd.C_drew ?_))); (case side4 => exact (Kd.Qn HO110.out).2.1); rintro e w' ⟨rfl, ⟨nd, rfl⟩⟩; refine ⟨_, rfl, ?_⟩))
     go_meet
     case rel => exact ⟨_, (true), (by first | rfl | (simp; done) | (simp [*]; done)), H', ⟨by first | omega | exact Nat.le_refl _⟩, ⟨by (with_reducible repeat (first | apply Kd.Qj | apply Kd.Qk | apply Kd.R_drew)); exact Kd.R_mono HO110.out (fun _ hk => ⟨hk.2, hk.1.2⟩)⟩, ⟨by (with_reducible repeat (first | apply Kd.Qj | apply Kd.Qk | apply Kd.R_drew)); exact Kd.R_mono HO121.out (fun _ hk => ⟨hk.1.2, hk.2⟩)⟩, ⟨by (with_reducible repeat (first | apply Kd.Qj | apply Kd.Qk | apply Kd.R_drew)); exact Kd.R_mono HO115.out (fun _ hk => ⟨hk.1.2, hk.2⟩)⟩, ⟨by (with_reducible repeat (first | refine Qh ?_ _ | refine Qi ?_ | refine Qg ?_ _)); exact BK101.out⟩, ⟨by (with_reducible repeat (first | refine Qh ?_ _ | refine Qi ?_ | refine Qg ?_ _)); exact BK118.out⟩, ⟨by repeat (first | (with_reducible first | exact HB.out | apply Qc | apply Qa | apply Qb | refine Qe ?_ GE101.out | refine Qe ?_ GE118.out) | exact HB.out)⟩⟩
   case rest =>
    clear HC11; (try clear c1); (try clear c2); (try clear p2); (try clear c3); (try clear c3b0); (try clear c5); (try clear c9); (try clear c15); (try clear c17); (try clear c21); (try clear c23); (try clear c27); (try clear c28); (try clear c28b0); (try clear c28b1); (try clear hcz13_0); (try clear hcz13_1); (try clear hcz13_2); (try clear hcz15_0); (try clear hcz15_1); (try clear hcz15_2); (try clear hcz19_0); (try clear hcz19_1); (try clear hcz19_2); (try clear hcz24_0); (try clear hcz24_1); (try clear hcz24_2); (try clear hcz5_0); (try clear hcz5_1); (try clear hcz5_2); (try clear hfz13_0); (try clear hfz13_1); (try clear hfz13_2); (try clear hfz15_0); (try clear hfz15_1); (try clear hfz15_2); (try clear hfz19_0); (try clear hfz19_1); (try clear hfz19_2); (try clear hfz24_0); (try clear hfz24_1); (try clear hfz24_2); (try clear hfz5_0); (try clear hfz5_1); (try clear hfz5_2); obtain ⟨kq, x50_10, rfl, HA, HJ10, HO_4, HO_8, HO_119000, BK101, BK118, HB⟩ := hcut
    cases kq with
    | zero => exact absurd HA.out (by simp [laws_FnExactBestLots.j0])
    | succ kj10 =>
     have H := HA.out; clear HA; simp only [laws_FnExactBestLots.j0] at H; by_cases c35 : x50_10 = true
     ·subst c35; have H1 : (some false) = some r := by rw [if_pos rfl] at H; exact H
      clear H; have H := H1; clear H1; obtain rfl := Option.some.inj H; go_wp2
      go_ret
      exact ⟨by first | rfl | (simp [errW_none, errW_some] <;> rfl) | (simp [*, errW_none, errW_some] <;> rfl), by repeat (first | (with_reducible first | exact HB.out | apply Qc | apply Qa | apply Qb | refine Qe ?_ GE101.out | refine Qe ?_ GE118.out) | exact HB.out)⟩
     ·replace c35 := Bool.eq_false_iff.mpr c35; subst c35; have H1 : ((laws_toTrade.f kj10 l0_0 a0_1 a0_2).bind fun bt125 => ((laws_eqTrade.f kj10 t113 t116 t117 bt125.1 bt125.2.1 bt125.2.2).bind fun t130 => (if t130 = true then ((laws_markTrade.f kj10 t113 t116 t117 1).bind fun bt131 => (if bt131.1 < 0 then (laws_FnExactBestLots.j1 kj10 t108 t111 t112 t119 true l0_0 a0_1 a0_2) else ((laws_eqIntS.f kj10 t119 t108).bind fun t133 => (if t133 = true then (if t122 = t111 then (laws_FnExactBestLots.j1 kj10 t108 t111 t112 t119 (t123 != t112) l0_0 a0_1 a0_2) else (laws_FnExactBestLots.j1 kj10 t108 t111 t112 t119 true l0_0 a0_1 a0_2)) else (laws_FnExactBestLots.j1 kj10 t108 t111 t112 t119 true l0_0 a0_1 a0_2))))) else (some false)))) = some r := by rw [if_neg (show ¬ (false = true) by decide)] at H; exact H
      clear H; have H := H1; clear H1; replace H := Option.bind_eq_some_iff.mp H; obtain ⟨⟨t125, t128, t129⟩, A360, H⟩ := H; replace H : ((laws_eqTrade.f kj10 t113 t116 t117 t125 t128 t129).bind fun t130 => (if t130 = true then ((laws_markTrade.f kj10 t113 t116 t117 1).bind fun bt131 => (if bt131.1 < 0 then (laws_FnExactBestLots.j1 kj10 t108 t111 t112 t119 true l0_0 a0_1 a0_2) else ((laws_eqIntS.f kj10 t119 t108).bind fun t133 => (if t133 = true then (if t122 = t111 then (laws_FnExactBestLots.j1 kj10 t108 t111 t112 t119 (t123 != t112) l0_0 a0_1 a0_2) else (laws_FnExactBestLots.j1 kj10 t108 t111 t112 t119 true l0_0 a0_1 a0_2)) else (laws_FnExactBestLots.j1 kj10 t108 t111 t112 t119 true l0_0 a0_1 a0_2))))) else (some false))) = some r := H; have A36 := Aside0.mk A360; clear A360; replace H := Option.bind_eq_some_iff.mp H; obtain ⟨t130, A370, H⟩ := H; replace H : (if t130 = true then ((laws_markTrade.f kj10 t113 t116 t117 1).bind fun bt131 => (if bt131.1 < 0 then (laws_FnExactBestLots.j1 kj10 t108 t111 t112 t119 true l0_0 a0_1 a0_2) else ((laws_eqIntS.f kj10 t119 t108).bind fun t133 => (if t133 = true then (if t122 = t111 then (laws_FnExactBestLots.j1 kj10 t108 t111 t112 t119 (t123 != t112) l0_0 a0_1 a0_2) else (laws_FnExactBestLots.j1 kj10 t108 t111 t112 t119 true l0_0 a0_1 a0_2)) else (laws_FnExactBestLots.j1 kj10 t108 t111 t112 t119 true l0_0 a0_1 a0_2))))) else (some false)) = some r := H; have A37 := Aside0.mk A370; clear A370; by_cases c38 : t130 = true
      ·subst c38; have H1 : ((laws_markTrade.f kj10 t113 t116 t117 1).bind fun bt131 => (if bt131.1 < 0 then (laws_FnExactBestLots.j1 kj10 t108 t111 t112 t119 true l0_0 a0_1 a0_2) else ((laws_eqIntS.f kj10 t119 t108).bind fun t133 => (if t133 = true then (if t122 = t111 then (laws_FnExactBestLots.j1 kj10 t108 t111 t112 t119 (t123 != t112) l0_0 a0_1 a0_2) else (laws_FnExactBestLots.j1 kj10 t108 t111 t112 t119 true l0_0 a0_1 a0_2)) else (laws_FnExactBestLots.j1 kj10 t108 t111 t112 t119 true l0_0 a0_1 a0_2))))) = some r := by rw [if_pos rfl] at H; exact H
       clear H; have H := H1; clear H1; replace H := Option.bind_eq_some_iff.mp H; obtain ⟨⟨t131, t132⟩, A390, H⟩ := H; replace H : (if t131 < 0 then (laws_FnExactBestLots.j1 kj10 t108 t111 t112 t119 true l0_0 a0_1 a0_2) else ((laws_eqIntS.f kj10 t119 t108).bind fun t133 => (if t133 = true then (if t122 = t111 then (laws_FnExactBestLots.j1 kj10 t108 t111 t112 t119 (t123 != t112) l0_0 a0_1 a0_2) else (laws_FnExactBestLots.j1 kj10 t108 t111 t112 t119 true l0_0 a0_1 a0_2)) else (laws_FnExactBestLots.j1 kj10 t108 t111 t112 t119 true l0_0 a0_1 a0_2)))) = some r := H; have A39 := Aside0.mk A390; clear A390; have HC40 := Aside0.mk H; clear H
       try go_wp2
       have n0_ := Aside0.mk (Kd.R_drew HO_4.out); have n1_ := Aside0.mk (Kd.R_drew HO_8.out); have n2_ := Aside0.mk (Kd.R_drew HO_119000.out); have n3_ := Aside0.mk (Qi BK101.out); have n4_ := Aside0.mk (Qi BK118.out); have n5_ := Aside0.mk (Qb HB.out); clear HO_4; clear HO_8; clear HO_119000; clear BK101; clear BK118; clear HB; have HO_4 := n0_; have HO_8 := n1_; have HO_119000 := n2_; have BK101 := n3_; have BK118 := n4_; have HB := n5_; clear n0_ n1_ n2_ n3_ n4_ n5_; refine start_ (n := 5) (S := fun w' => w'.cell? ⟨gb118, 0, none⟩ = some (.slice Ao22 t113.length co22) ∧ w'.cell? ⟨gb118, 1, none⟩ = some (.int .i64 t116) ∧ w'.cell? ⟨gb118, 2, none⟩ = some (.int .i64 t117) ∧ w'.cell? ⟨gb101, 0, none⟩ = some (.slice A0_0 l0_0.length c0_0) ∧ w'.cell? ⟨gb101, 1, none⟩ = some (.int .i64 a0_1) ∧ w'.cell? ⟨gb101, 2, none⟩ = some (.int .i64 a0_2)) (ds := []) #[false, false, false, false, false] (by kernel_rfl) rfl rfl ⟨(Qd BK118.out 0).trans rfl, (Qd BK118.out 1).trans rfl, (Qd BK118.out 2).trans rfl, (Qd BK101.out 0).trans rfl, (Qd BK101.out 1).trans rfl, (Qd BK101.out 2).trans rfl⟩ (fun hHeld => ?_)
       generalize wc.drew = w41 at HO_4 HO_8 HO_119000 BK101 BK118 HB hHeld ⊢
       refine take_ (i := 0) (N := some 51) (v := ?_) (a' := ?_) #[true, false, false, false, false] rfl rfl (by kernel_rfl) (fun _ _ _ h => h) (Or.inl ⟨by rfl, ?_⟩) hHeld ?_ ?_
       rotate_left
       ·rintro w' ⟨s0, s1, s2, s3, s4, s5⟩
        go_simp
        with_reducible rfl
       rotate_left
       ·simp only [Act.put, List.setIfInBounds_toArray, List.set_cons_zero, List.set_cons_succ, i64_w, i32_w]
        rfl
       refine take_ (i := 1) (N := some 52) (v := ?_) (a' := ?_) #[true, true, false, false, false] rfl rfl (by kernel_rfl) (fun _ _ _ h => h) (Or.inl ⟨by rfl, ?_⟩) hHeld ?_ ?_
       rotate_left
       ·rintro w' ⟨s0, s1, s2, s3, s4, s5⟩
        go_simp
        with_reducible rfl
       rotate_left
       ·simp only [Act.put, List.setIfInBounds_toArray, List.set_cons_zero, List.set_cons_succ, i64_w, i32_w]
        rfl
       refine one_ (i := 2) (N := some 53) #[true, true, true, false, false] rfl rfl (by kernel_rfl) (by decide) (fun K hK => ?_)
       first | (refine goes_ Try.func17 (by kernel_rfl) rfl #[.agg #[.slice A0_0 l0_0.length c0_0, .int .i64 a0_1, .int .i64 a0_2]] (by rfl) rfl rfl (by (try simp only [List.map_toArray, List.map_cons, List.map_nil]); first | done | rfl | (simp only [List.length_drop, List.length_take]; rfl)) ?_) | (refine call_ 17 #[.agg #[.slice A0_0 l0_0.length c0_0, .int .i64 a0_1, .int .i64 a0_2]] (by rfl) rfl (by unfold execOp; simp [resolve, Deferred.ofValue, invoke, Act.eval, enters_ Try.func17 (by kernel_rfl) rfl]) ?_)
       with_reducible refine (laws_toTrade.calls kj10 _ _ l0_0 a0_1 a0_2 t125 t128 t129 _ ?side1 ?side2 A36.out).mono ?_
       (case side1 => repeat (first | exact (Kd.C_below HR0_0.out HB.out) | (with_reducible refine Kd.C_alloc ?_ _) | (with_reducible refine Kd.C_drewN ?_ _) | (with_reducible refine Kd.C_drew ?_)))
       (case side2 => exact HC0_0.out)
       rintro e w42 ⟨v126, rfl, ho0, hb⟩
       refine ⟨_, rfl, ?_⟩; have n0_ := Aside0.mk (Kd.R_elder' (by (with_reducible repeat (first | apply Kd.Qj | apply Kd.Qk | apply Kd.R_drew)); exact HO_4.out) (Kd.R_base ho0) hb); have n1_ := Aside0.mk (Kd.R_elder' (by (with_reducible repeat (first | apply Kd.Qj | apply Kd.Qk | apply Kd.R_drew)); exact HO_8.out) (Kd.R_base ho0) hb); have n2_ := Aside0.mk (Kd.R_elder' (by (with_reducible repeat (first | apply Kd.Qj | apply Kd.Qk | apply Kd.R_drew)); exact HO_119000.out) (Kd.R_base ho0) hb); have n3_ := Aside0.mk (Kd.R_lower (Kd.R_new' (Kd.R_new' (Kd.R_new' ho0 (Kd.R_lt (by (with_reducible repeat (first | apply Kd.Qj | apply Kd.Qk | apply Kd.R_drew)); exact HO_4.out))) (Kd.R_lt (by (with_reducible repeat (first | apply Kd.Qj | apply Kd.Qk | apply Kd.R_drew)); exact HO_8.out))) (Kd.R_lt (by (with_reducible repeat (first | apply Kd.Qj | apply Kd.Qk | apply Kd.R_drew)); exact HO_119000.out))) (Ql (by repeat (first | (with_reducible first | exact HB.out | apply Qc | apply Qa | apply Qb | refine Qe ?_ GE101.out | refine Qe ?_ GE118.out) | exact HB.out)))); have n4_ := Aside0.mk (Qp (g := gb101) (o := .cells #[.slice A0_0 l0_0.length c0_0, .int .i64 a0_1, .int .i64 a0_2] 24 (0, 0)) (by (with_reducible repeat (first | refine Qh ?_ _ | refine Qi ?_ | refine Qg ?_ _)); exact BK101.out) hb); have n5_ := Aside0.mk (Qp (g := gb118) (o := .cells #[.slice Ao22 t113.length co22, .int .i64 t116, .int .i64 t117] 28 (0, 0)) (by (with_reducible repeat (first | refine Qh ?_ _ | refine Qi ?_ | refine Qg ?_ _)); exact BK118.out) hb); have n6_ := Aside0.mk (Qm (by repeat (first | (with_reducible first | exact HB.out | apply Qc | apply Qa | apply Qb | refine Qe ?_ GE101.out | refine Qe ?_ GE118.out) | exact HB.out)) hb); clear HO_4; clear HO_8; clear HO_119000; clear BK101; clear BK118; clear HB; have HO_4 := n0_; have HO_8 := n1_; have HO_119000 := n2_; have HO127 := n3_; have BK101 := n4_; have BK118 := n5_; have HB := n6_; clear n0_ n1_ n2_ n3_ n4_ n5_ n6_; (try clear hb); (try clear hb2); (try clear hk); (try clear hi); (try clear ho0); obtain ⟨Ao43, co43, eo43⟩ := Kd.R_slice HO127.out
       (first | subst eo43 | (injection eo43 with f1_ f2_ f3_; have f4_ := f1_.symm; have f5_ := f3_.symm; clear f1_ f2_ f3_; subst f4_; subst f5_))
       refine hK.out _ _ ⟨(Qd BK118.out 0).trans rfl, (Qd BK118.out 1).trans rfl, (Qd BK118.out 2).trans rfl, (Qd BK101.out 0).trans rfl, (Qd BK101.out 1).trans rfl, (Qd BK101.out 2).trans rfl⟩ (fun hHeld => ?_); clear hK K; refine norm_ (a' := ?_) ?_ ?_
       rotate_left
       ·show Act.put _ (some 53) _ = _
        simp only [Act.put, List.setIfInBounds_toArray, List.set_cons_zero, List.set_cons_succ, i64_w, i32_w]
        rfl
       refine one_ (i := 3) (N := some 54) #[true, true, true, true, false] rfl rfl (by kernel_rfl) (by decide) (fun K hK => ?_)
       first | (refine goes_ Try.func20 (by kernel_rfl) rfl #[.agg #[.slice Ao22 t113.length co22, .int .i64 t116, .int .i64 t117], .agg #[.slice Ao43 t125.length co43, .int .i64 t128, .int .i64 t129]] (by rfl) rfl rfl (by (try simp only [List.map_toArray, List.map_cons, List.map_nil]); first | done | rfl | (simp only [List.length_drop, List.length_take]; rfl)) ?_) | (refine call_ 20 #[.agg #[.slice Ao22 t113.length co22, .int .i64 t116, .int .i64 t117], .agg #[.slice Ao43 t125.length co43, .int .i64 t128, .int .i64 t129]] (by rfl) rfl (by unfold execOp; simp [resolve, Deferred.ofValue, invoke, Act.eval, enters_ Try.func20 (by kernel_rfl) rfl]) ?_)
       with_reducible refine (laws_eqTrade.calls kj10 _ _ t113 t116 t117 _ _ t125 t128 t129 true _ ?side1 ?side2 ?side3 ?side4 A37.out).mono ?_
       (case side1 => repeat (first | exact (Kd.Qn HO_119000.out).2.2 | (with_reducible refine Kd.C_alloc ?_ _) | (with_reducible refine Kd.C_drewN ?_ _) | (with_reducible refine Kd.C_drew ?_)))
       (case side2 => exact (Kd.Qn HO_119000.out).2.1)
       (case side3 => repeat (first | exact (Kd.Qn HO127.out).2.2 | (with_reducible refine Kd.C_alloc ?_ _) | (with_reducible refine Kd.C_drewN ?_ _) | (with_reducible refine Kd.C_drew ?_)))
       (case side4 => exact (Kd.Qn HO127.out).2.1)
       rintro e w44 ⟨rfl, hb⟩
       refine ⟨_, rfl, ?_⟩; have n0_ := Aside0.mk (Kd.R_below (by (with_reducible repeat (first | apply Kd.Qj | apply Kd.Qk | apply Kd.R_drew)); exact HO_4.out) hb); have n1_ := Aside0.mk (Kd.R_below (by (with_reducible repeat (first | apply Kd.Qj | apply Kd.Qk | apply Kd.R_drew)); exact HO_8.out) hb); have n2_ := Aside0.mk (Kd.R_below (by (with_reducible repeat (first | apply Kd.Qj | apply Kd.Qk | apply Kd.R_drew)); exact HO_119000.out) hb); have n3_ := Aside0.mk (Kd.R_below (by (with_reducible repeat (first | apply Kd.Qj | apply Kd.Qk | apply Kd.R_drew)); exact HO127.out) hb); have n4_ := Aside0.mk (Qp (g := gb101) (o := .cells #[.slice A0_0 l0_0.length c0_0, .int .i64 a0_1, .int .i64 a0_2] 24 (0, 0)) (by (with_reducible repeat (first | refine Qh ?_ _ | refine Qi ?_ | refine Qg ?_ _)); exact BK101.out) hb); have n5_ := Aside0.mk (Qp (g := gb118) (o := .cells #[.slice Ao22 t113.length co22, .int .i64 t116, .int .i64 t117] 28 (0, 0)) (by (with_reducible repeat (first | refine Qh ?_ _ | refine Qi ?_ | refine Qg ?_ _)); exact BK118.out) hb); have n6_ := Aside0.mk (Qm (by repeat (first | (with_reducible first | exact HB.out | apply Qc | apply Qa | apply Qb | refine Qe ?_ GE101.out | refine Qe ?_ GE118.out) | exact HB.out)) hb); clear HO_4; clear HO_8; clear HO_119000; clear HO127; clear BK101; clear BK118; clear HB; have HO_4 := n0_; have HO_8 := n1_; have HO_119000 := n2_; have HO127 := n3_; have BK101 := n4_; have BK118 := n5_; have HB := n6_; clear n0_ n1_ n2_ n3_ n4_ n5_ n6_; (try clear hb); (try clear hb2); (try clear hk); (try clear hi); refine hK.out _ _ ⟨(Qd BK118.out 0).trans rfl, (Qd BK118.out 1).trans rfl, (Qd BK118.out 2).trans rfl, (Qd BK101.out 0).trans rfl, (Qd BK101.out 1).trans rfl, (Qd BK101.out 2).trans rfl⟩ (fun hHeld => ?_); clear hK K; refine norm_ (a' := ?_) ?_ ?_
       rotate_left
       ·show Act.put _ (some 54) _ = _
        simp only [Act.put, List.setIfInBounds_toArray, List.set_cons_zero, List.set_cons_succ, i64_w, i32_w]
        rfl
       refine pure_ (i := 4) (N := some 55) (v := ?_) (a' := ?_) #[true, true, true, true, true] rfl rfl (by kernel_rfl) (fun _ _ _ h => h) (Or.inl ⟨by rfl, ?_⟩) ?_ ?_
       rotate_left
       ·intro w'
        go_simp
        with_reducible rfl
       rotate_left
       ·simp only [Act.put, List.setIfInBounds_toArray, List.set_cons_zero, List.set_cons_succ, i64_w, i32_w]
        rfl
       refine done_ (by kernel_rfl) ?_; have hnb45 := NB118_101.out; have hnc45 := NB101_118.out; have hcz46_0 : w44.cell? ⟨gb118, 0, none⟩ = some (.slice Ao22 t113.length co22) := (Qd BK118.out 0).trans rfl; have hcz46_1 : w44.cell? ⟨gb118, 1, none⟩ = some (.int .i64 t116) := (Qd BK118.out 1).trans rfl; have hcz46_2 : w44.cell? ⟨gb118, 2, none⟩ = some (.int .i64 t117) := (Qd BK118.out 2).trans rfl; have hfz46_0 := Qf BK118.out 0; have hfz46_1 := Qf BK118.out 1; have hfz46_2 := Qf BK118.out 2
       go_upto_region 14 with (first | ((with_reducible refine Qo (f := 26) rfl ?_); refine goesL_ (some 58) rfl rfl Try.func26 (by kernel_rfl) rfl #[.agg #[.slice Ao22 t113.length co22, .int .i64 t116, .int .i64 t117], .int .i64 1] rfl (by (try simp only [List.map_toArray, List.map_cons, List.map_nil]); first | done | rfl | (simp only [List.length_drop, List.length_take]; rfl)) ?_; (with_reducible refine (laws_markTrade.calls kj10 (fun k_ => some k_ = (.slice Ao22 t113.length co22 : Value).ownBlock) (.slice Ao22 t113.length co22) t113 t116 t117 1 t131 t132 w _ ?side1 ?side2 A39.out).mono ?_); (case side1 => repeat (first | (with_reducible first | exact HB.out | apply Qc | apply Qa | apply Qb | refine Qe ?_ GE101.out | refine Qe ?_ GE118.out) | exact HB.out)); (case side2 => exact Kd.R_tight rfl HO_119000.out); rintro e w47 ⟨rfl, hy0, hb, hkp⟩; refine ⟨_, rfl, ?_⟩; have n0_ := Aside0.mk (Kd.R_mono (ok' := fun k_ => some k_ ≠ (v120 : Value).ownBlock ∧ some k_ ≠ (.slice Ao22 t113.length co22 : Value).ownBlock ∧ some k_ ≠ (.slice Ao43 t125.length co43 : Value).ownBlock) (Kd.R_keptB (HO_4.out) hkp (fun k_ hk_ hs_ => (hk_.1.2) hs_)) (fun k_ hk_ => ⟨hk_.1.1.1, hk_.1.1.2, hk_.1.2⟩)); have n1_ := Aside0.mk (Kd.R_mono (ok' := fun k_ => some k_ ≠ (v109 : Value).ownBlock ∧ some k_ ≠ (.slice Ao22 t113.length co22 : Value).ownBlock ∧ some k_ ≠ (.slice Ao43 t125.length co43 : Value).ownBlock) (Kd.R_keptB (HO_8.out) hkp (fun k_ hk_ hs_ => (hk_.1.2) hs_)) (fun k_ hk_ => ⟨hk_.1.1.1, hk_.1.1.2, hk_.1.2⟩)); have n2_ := Aside0.mk (Kd.R_reok rfl hy0 (fun k_ e_ => HO_119000.out.1 k_ e_)); have n3_ := Aside0.mk (blk_kept (by (with_reducible repeat (first | refine Qh ?_ _ | refine Qi ?_ | refine Qg ?_ _)); exact BK101.out) hkp (fun hs_ => (fun e_ => (Kd.R_ne HO_119000.out BK101.out (by decide)) e_) hs_)); have n4_ := Aside0.mk (blk_kept (by (with_reducible repeat (first | refine Qh ?_ _ | refine Qi ?_ | refine Qg ?_ _)); exact BK118.out) hkp (fun hs_ => (fun e_ => (Kd.R_ne HO_119000.out BK118.out (by decide)) e_) hs_)); have n5_ := Aside0.mk (Kd.R_mono (ok' := fun k_ => some k_ ≠ (v109 : Value).ownBlock ∧ some k_ ≠ (v120 : Value).ownBlock ∧ some k_ ≠ (.slice Ao22 t113.length co22 : Value).ownBlock) (Kd.R_keptB (HO127.out) hkp (fun k_ hk_ hs_ => (hk_.2) hs_)) (fun k_ hk_ => ⟨hk_.1.1.1.2, hk_.1.1.2, hk_.1.2⟩)); have n6_ := Aside0.mk (hb); clear HO_4; clear HO_8; clear HO_119000; clear BK101; clear BK118; clear HO127; clear HB; have HO_4 := n0_; have HO_8 := n1_; have HO_119000 := n2_; have BK101 := n3_; have BK118 := n4_; have HO127 := n5_; have HB := n6_; clear n0_ n1_ n2_ n3_ n4_ n5_ n6_; (try clear hb); (try clear hkp); (try clear hy0)))
       (try simp only [Act.put, List.setIfInBounds_toArray, List.set_cons_zero, List.set_cons_succ])
       go_cut [76] (fun v76 wc => ∃ (kq : Nat) (x76_39 : Bool), v76 = .bool x76_39 ∧ Aside0 (laws_FnExactBestLots.j1 kq t108 t111 t112 t119 x76_39 l0_0 a0_1 a0_2 = some r) ∧ Aside0 (kq ≤ kj10) ∧ Aside0 (Kd.R (Kd.int .i64) 3 wc w.heap.size (fun k_ => some k_ ≠ (v120 : Value).ownBlock) v109 t108) ∧ Aside0 (Kd.R (Kd.int .i64) 3 wc w.heap.size (fun k_ => some k_ ≠ (v109 : Value).ownBlock) v120 t119) ∧ Aside0 (wc.heap[gb101]? = some (.cells #[(.slice A0_0 l0_0.length c0_0), .int .i64 a0_1, .int .i64 a0_2] 24 (0, 0))) ∧ Aside0 (Below w.heap.size w wc))
       case first =>
        have H := HC40.out; clear HC40; by_cases c48 : t131 < 0
        ·rw [if_pos c48] at H; have c48b0 : decide (t131 < 0) = true := decide_eq_true c48; clear c48
         (first | rw [c48b0] | (simp only [i64_w, i32_w]; rw [c48b0]) | skip)
         have H' := Aside0.mk H; clear H; go_wp2
         go_meet
         case rel => exact ⟨_, (true), (by first | rfl | (simp; done) | (simp [*]; done)), H', ⟨by have := HJ10.out; first | omega | exact Nat.le_refl _⟩, ⟨by (with_reducible repeat (first | apply Kd.Qj | apply Kd.Qk | apply Kd.R_drew)); exact Kd.R_mono HO_4.out (fun _ hk => hk.1)⟩, ⟨by (with_reducible repeat (first | apply Kd.Qj | apply Kd.Qk | apply Kd.R_drew)); exact Kd.R_mono HO_8.out (fun _ hk => hk.1)⟩, ⟨by (with_reducible repeat (first | refine Qh ?_ _ | refine Qi ?_ | refine Qg ?_ _)); exact BK101.out⟩, ⟨by repeat (first | (with_reducible first | exact HB.out | apply Qc | apply Qa | apply Qb | refine Qe ?_ GE101.out | refine Qe ?_ GE118.out) | exact HB.out)⟩⟩
        ·rw [if_neg c48] at H; have c48b0 : decide (t131 < 0) = false := decide_eq_false c48; clear c48
         (first | rw [c48b0] | (simp only [i64_w, i32_w]; rw [c48b0]) | skip)
         replace H := Option.bind_eq_some_iff.mp H; obtain ⟨t133, A490, H⟩ := H; replace H : (if t133 = true then (if t122 = t111 then (laws_FnExactBestLots.j1 kj10 t108 t111 t112 t119 (t123 != t112) l0_0 a0_1 a0_2) else (laws_FnExactBestLots.j1 kj10 t108 t111 t112 t119 true l0_0 a0_1 a0_2)) else (laws_FnExactBestLots.j1 kj10 t108 t111 t112 t119 true l0_0 a0_1 a0_2)) = some r := H; have A49 := Aside0.mk A490; clear A490; by_cases c50 : t133 = true
         ·subst c50; have H1 : (if t122 = t111 then (laws_FnExactBestLots.j1 kj10 t108 t111 t112 t119 (t123 != t112) l0_0 a0_1 a0_2) else (laws_FnExactBestLots.j1 kj10 t108 t111 t112 t119 true l0_0 a0_1 a0_2)) = some r := by rw [if_pos rfl] at H; exact H
          clear H; have H := H1; clear H1; by_cases c51 : t122 = t111
          ·rw [if_pos c51] at H; have c51b0 : (t122 == t111) = true := beq_iff_eq.mpr c51; have c51b1 : (t122 != t111) = false := bne_eq_false_iff_eq.mpr c51; clear c51; have H' := Aside0.mk H; clear H; obtain ⟨Ao52, co52, eo52⟩ := Kd.R_slice HO_8.out; subst eo52; obtain ⟨Ao53, co53, eo53⟩ := Kd.R_slice HO_4.out; subst eo53; go_wp2_with (first | (go_at_call 21; (with_reducible refine (laws_eqIntS.calls kj10 _ _ t119 _ _ t108 true _ ?side1 ?side2 ?side3 ?side4 A49.out).mono ?_); (case side1 => repeat (first | exact (Kd.Qn HO_8.out).2.2 | (with_reducible refine Kd.C_alloc ?_ _) | (with_reducible refine Kd.C_drewN ?_ _) | (with_reducible refine Kd.C_drew ?_))); (case side2 => exact (Kd.Qn HO_8.out).2.1); (case side3 => repeat (first | exact (Kd.Qn HO_4.out).2.2 | (with_reducible refine Kd.C_alloc ?_ _) | (with_reducible refine Kd.C_drewN ?_ _) | (with_reducible refine Kd.C_drew ?_))); (case side4 => exact (Kd.Qn HO_4.out).2.1); rintro e w' ⟨rfl, ⟨nd, rfl⟩⟩))
           go_meet
           case rel => exact ⟨_, ((t123 != t112)), (by first | rfl | (simp; done) | (simp [*]; done)), H', ⟨by have := HJ10.out; first | omega | exact Nat.le_refl _⟩, ⟨by (with_reducible repeat (first | apply Kd.Qj | apply Kd.Qk | apply Kd.R_drew)); exact Kd.R_mono HO_4.out (fun _ hk => hk.1)⟩, ⟨by (with_reducible repeat (first | apply Kd.Qj | apply Kd.Qk | apply Kd.R_drew)); exact Kd.R_mono HO_8.out (fun _ hk => hk.1)⟩, ⟨by (with_reducible repeat (first | refine Qh ?_ _ | refine Qi ?_ | refine Qg ?_ _)); exact BK101.out⟩, ⟨by repeat (first | (with_reducible first | exact HB.out | apply Qc | apply Qa | apply Qb | refine Qe ?_ GE101.out | refine Qe ?_ GE118.out) | exact HB.out)⟩⟩
          ·rw [if_neg c51] at H; have c51b0 : (t122 == t111) = false := beq_eq_false_iff_ne.mpr c51; have c51b1 : (t122 != t111) = true := bne_iff_ne.mpr c51; have H' := Aside0.mk H; clear H; obtain ⟨Ao54, co54, eo54⟩ := Kd.R_slice HO_8.out; subst eo54; obtain ⟨Ao55, co55, eo55⟩ := Kd.R_slice HO_4.out; subst eo55; go_wp2_with (first | (go_at_call 21; (with_reducible refine (laws_eqIntS.calls kj10 _ _ t119 _ _ t108 true _ ?side1 ?side2 ?side3 ?side4 A49.out).mono ?_); (case side1 => repeat (first | exact (Kd.Qn HO_8.out).2.2 | (with_reducible refine Kd.C_alloc ?_ _) | (with_reducible refine Kd.C_drewN ?_ _) | (with_reducible refine Kd.C_drew ?_))); (case side2 => exact (Kd.Qn HO_8.out).2.1); (case side3 => repeat (first | exact (Kd.Qn HO_4.out).2.2 | (with_reducible refine Kd.C_alloc ?_ _) | (with_reducible refine Kd.C_drewN ?_ _) | (with_reducible refine Kd.C_drew ?_))); (case side4 => exact (Kd.Qn HO_4.out).2.1); rintro e w' ⟨rfl, ⟨nd, rfl⟩⟩))
           go_meet
           case rel => exact ⟨_, (true), (by first | rfl | (simp; done) | (simp [*]; done)), H', ⟨by have := HJ10.out; first | omega | exact Nat.le_refl _⟩, ⟨by (with_reducible repeat (first | apply Kd.Qj | apply Kd.Qk | apply Kd.R_drew)); exact Kd.R_mono HO_4.out (fun _ hk => hk.1)⟩, ⟨by (with_reducible repeat (first | apply Kd.Qj | apply Kd.Qk | apply Kd.R_drew)); exact Kd.R_mono HO_8.out (fun _ hk => hk.1)⟩, ⟨by (with_reducible repeat (first | refine Qh ?_ _ | refine Qi ?_ | refine Qg ?_ _)); exact BK101.out⟩, ⟨by repeat (first | (with_reducible first | exact HB.out | apply Qc | apply Qa | apply Qb | refine Qe ?_ GE101.out | refine Qe ?_ GE118.out) | exact HB.out)⟩⟩
         ·replace c50 := Bool.eq_false_iff.mpr c50; subst c50; have H1 : (laws_FnExactBestLots.j1 kj10 t108 t111 t112 t119 true l0_0 a0_1 a0_2) = some r := by rw [if_neg (show ¬ (false = true) by decide)] at H; exact H
          clear H; have H := H1; clear H1; have H' := Aside0.mk H; clear H; obtain ⟨Ao56, co56, eo56⟩ := Kd.R_slice HO_8.out; subst eo56; obtain ⟨Ao57, co57, eo57⟩ := Kd.R_slice HO_4.out; subst eo57; go_wp2_with (first | (go_at_call 21; (with_reducible refine (laws_eqIntS.calls kj10 _ _ t119 _ _ t108 false _ ?side1 ?side2 ?side3 ?side4 A49.out).mono ?_); (case side1 => repeat (first | exact (Kd.Qn HO_8.out).2.2 | (with_reducible refine Kd.C_alloc ?_ _) | (with_reducible refine Kd.C_drewN ?_ _) | (with_reducible refine Kd.C_drew ?_))); (case side2 => exact (Kd.Qn HO_8.out).2.1); (case side3 => repeat (first | exact (Kd.Qn HO_4.out).2.2 | (with_reducible refine Kd.C_alloc ?_ _) | (with_reducible refine Kd.C_drewN ?_ _) | (with_reducible refine Kd.C_drew ?_))); (case side4 => exact (Kd.Qn HO_4.out).2.1); rintro e w' ⟨rfl, ⟨nd, rfl⟩⟩))
          go_meet
          case rel => exact ⟨_, (true), (by first | rfl | (simp; done) | (simp [*]; done)), H', ⟨by have := HJ10.out; first | omega | exact Nat.le_refl _⟩, ⟨by (with_reducible repeat (first | apply Kd.Qj | apply Kd.Qk | apply Kd.R_drew)); exact Kd.R_mono HO_4.out (fun _ hk => hk.1)⟩, ⟨by (with_reducible repeat (first | apply Kd.Qj | apply Kd.Qk | apply Kd.R_drew)); exact Kd.R_mono HO_8.out (fun _ hk => hk.1)⟩, ⟨by (with_reducible repeat (first | refine Qh ?_ _ | refine Qi ?_ | refine Qg ?_ _)); exact BK101.out⟩, ⟨by repeat (first | (with_reducible first | exact HB.out | apply Qc | apply Qa | apply Qb | refine Qe ?_ GE101.out | refine Qe ?_ GE118.out) | exact HB.out)⟩⟩
       case rest =>
        clear HC40; (try clear c1); (try clear c2); (try clear p2); (try clear c3); (try clear c3b0); (try clear c4); (try clear c5); (try clear c9); (try clear c15); (try clear c17); (try clear c20); (try clear c21); (try clear c23); (try clear c26); (try clear c27); (try clear c28); (try clear c28b0); (try clear c28b1); (try clear c35); (try clear c38); (try clear c45); (try clear c48); (try clear c48b0); (try clear c50); (try clear c51); (try clear c51b0); (try clear c51b1); (try clear hcz13_0); (try clear hcz13_1); (try clear hcz13_2); (try clear hcz15_0); (try clear hcz15_1); (try clear hcz15_2); (try clear hcz19_0); (try clear hcz19_1); (try clear hcz19_2); (try clear hcz24_0); (try clear hcz24_1); (try clear hcz24_2); (try clear hcz46_0); (try clear hcz46_1); (try clear hcz46_2); (try clear hcz5_0); (try clear hcz5_1); (try clear hcz5_2); (try clear hfz13_0); (try clear hfz13_1); (try clear hfz13_2); (try clear hfz15_0); (try clear hfz15_1); (try clear hfz15_2); (try clear hfz19_0); (try clear hfz19_1); (try clear hfz19_2); (try clear hfz24_0); (try clear hfz24_1); (try clear hfz24_2); (try clear hfz46_0); (try clear hfz46_1); (try clear hfz46_2); (try clear hfz5_0); (try clear hfz5_1); (try clear hfz5_2); (try clear p2); obtain ⟨kq, x76_39, rfl, HA, HJ39, HO_4, HO_8, BK101, HB⟩ := hcut
        cases kq with
        | zero => exact absurd HA.out (by simp [laws_FnExactBestLots.j1])
        | succ kj39 =>
         have H := HA.out; clear HA; simp only [laws_FnExactBestLots.j1] at H; by_cases c58 : x76_39 = true
         ·subst c58; have H1 : (some false) = some r := by rw [if_pos rfl] at H; exact H
          clear H; have H := H1; clear H1; obtain rfl := Option.some.inj H; go_wp2
          go_ret
          exact ⟨by first | rfl | (simp [errW_none, errW_some] <;> rfl) | (simp [*, errW_none, errW_some] <;> rfl), by repeat (first | (with_reducible first | exact HB.out | apply Qc | apply Qa | apply Qb | refine Qe ?_ GE101.out) | exact HB.out)⟩
         ·replace c58 := Bool.eq_false_iff.mpr c58; subst c58; have H1 : ((laws_markIntS.f kj39 t119 1).bind fun bt134 => ((laws_heldIntS.f kj39 bt134.2 1).bind fun t136 => (if t136 < 0 then (some false) else (if t136 = bt134.1 then ((laws_toTrade.f kj39 l0_0 a0_1 a0_2).bind fun bt137 => ((impl_BestLots.f kj39 bt137.1 bt137.2.1 bt137.2.2).bind fun bt142 => ((laws_eqIntS.f kj39 bt142.1 t108).bind fun t147 => (if t147 = true then (if bt142.2.1 = t111 then (laws_FnExactBestLots.j2 kj39 bt134.2 bt134.1 (bt142.2.2 != t112)) else (laws_FnExactBestLots.j2 kj39 bt134.2 bt134.1 true)) else (laws_FnExactBestLots.j2 kj39 bt134.2 bt134.1 true))))) else (some false))))) = some r := by rw [if_neg (show ¬ (false = true) by decide)] at H; exact H
          clear H; have H := H1; clear H1; replace H := Option.bind_eq_some_iff.mp H; obtain ⟨⟨t134, t135⟩, A590, H⟩ := H; replace H : ((laws_heldIntS.f kj39 t135 1).bind fun t136 => (if t136 < 0 then (some false) else (if t136 = t134 then ((laws_toTrade.f kj39 l0_0 a0_1 a0_2).bind fun bt137 => ((impl_BestLots.f kj39 bt137.1 bt137.2.1 bt137.2.2).bind fun bt142 => ((laws_eqIntS.f kj39 bt142.1 t108).bind fun t147 => (if t147 = true then (if bt142.2.1 = t111 then (laws_FnExactBestLots.j2 kj39 t135 t134 (bt142.2.2 != t112)) else (laws_FnExactBestLots.j2 kj39 t135 t134 true)) else (laws_FnExactBestLots.j2 kj39 t135 t134 true))))) else (some false)))) = some r := H; have A59 := Aside0.mk A590; clear A590; replace H := Option.bind_eq_some_iff.mp H; obtain ⟨t136, A600, H⟩ := H; replace H : (if t136 < 0 then (some false) else (if t136 = t134 then ((laws_toTrade.f kj39 l0_0 a0_1 a0_2).bind fun bt137 => ((impl_BestLots.f kj39 bt137.1 bt137.2.1 bt137.2.2).bind fun bt142 => ((laws_eqIntS.f kj39 bt142.1 t108).bind fun t147 => (if t147 = true then (if bt142.2.1 = t111 then (laws_FnExactBestLots.j2 kj39 t135 t134 (bt142.2.2 != t112)) else (laws_FnExactBestLots.j2 kj39 t135 t134 true)) else (laws_FnExactBestLots.j2 kj39 t135 t134 true))))) else (some false))) = some r := H; have A60 := Aside0.mk A600; clear A600; by_cases c61 : t136 < 0
          ·rw [if_pos c61] at H; have c61b0 : decide (t136 < 0) = true := decide_eq_true c61; clear c61; obtain rfl := Option.some.inj H; obtain ⟨Ao62, co62, eo62⟩ := Kd.R_slice HO_8.out; subst eo62; go_wp2_with (first | ((with_reducible refine Qo (f := 27) rfl ?_); refine goesL_ (some 79) rfl rfl Try.func27 (by kernel_rfl) rfl #[.slice Ao62 t119.length co62, .int .i64 1] rfl (by (try simp only [List.map_toArray, List.map_cons, List.map_nil]); first | done | rfl | (simp only [List.length_drop, List.length_take]; rfl)) ?_; (with_reducible refine (laws_markIntS.calls kj39 (fun k_ => some k_ = (.slice Ao62 t119.length co62 : Value).ownBlock) (.slice Ao62 t119.length co62) t119 1 t134 t135 w _ ?side1 ?side2 A59.out).mono ?_); (case side1 => repeat (first | (with_reducible first | exact HB.out | apply Qc | apply Qa | apply Qb | refine Qe ?_ GE101.out) | exact HB.out)); (case side2 => exact Kd.R_tight rfl HO_8.out); rintro e w63 ⟨rfl, hy0, hb, hkp⟩; refine ⟨_, rfl, ?_⟩; have n0_ := Aside0.mk (Kd.R_mono (ok' := fun k_ => some k_ ≠ (.slice Ao62 t119.length co62 : Value).ownBlock) (Kd.R_keptB (HO_4.out) hkp (fun k_ hk_ hs_ => (hk_) hs_)) (fun k_ hk_ => hk_.1)); have n1_ := Aside0.mk (Kd.R_reok rfl hy0 (fun k_ e_ => HO_8.out.1 k_ e_)); have n2_ := Aside0.mk (blk_kept (by (with_reducible repeat (first | refine Qh ?_ _ | refine Qi ?_ | refine Qg ?_ _)); exact BK101.out) hkp (fun hs_ => (fun e_ => (Kd.R_ne HO_8.out BK101.out (by decide)) e_) hs_)); have n3_ := Aside0.mk (hb); clear HO_4; clear HO_8; clear BK101; clear HB; have HO_4 := n0_; have HO_8 := n1_; have BK101 := n2_; have HB := n3_; clear n0_ n1_ n2_ n3_; (try clear hb); (try clear hkp); (try clear hy0)) | ((with_reducible refine Qo (f := 28) rfl ?_); refine goesL_ (some 82) rfl rfl Try.func28 (by kernel_rfl) rfl #[.slice Ao62 t135.length co62, .int .i64 1] rfl (by (try simp only [List.map_toArray, List.map_cons, List.map_nil]); first | done | (rw [show t135.length = t119.length from (Kd.Qn HO_8.out).1.symm] <;> rfl) | rfl | (simp only [List.length_drop, List.length_take]; rfl)) ?_; (with_reducible refine (laws_heldIntS.calls kj39 _ _ t135 1 t136 _ ?side1 ?side2 A60.out).mono ?_); (case side1 => repeat (first | exact (Kd.Qn HO_8.out).2.2 | (with_reducible refine Kd.C_alloc ?_ _) | (with_reducible refine Kd.C_drewN ?_ _) | (with_reducible refine Kd.C_drew ?_))); (case side2 => rw [show t135.length = t119.length from (Kd.Qn HO_8.out).1.symm]; exact (Kd.Qn HO_8.out).2.1); rintro e w' ⟨rfl, ⟨nd, rfl⟩⟩; refine ⟨_, rfl, ?_⟩))
           go_ret
           exact ⟨by first | rfl | (simp [errW_none, errW_some] <;> rfl) | (simp [*, errW_none, errW_some] <;> rfl), by repeat (first | (with_reducible first | exact HB.out | apply Qc | apply Qa | apply Qb | refine Qe ?_ GE101.out) | exact HB.out)⟩
          ·rw [if_neg c61] at H; have c61b0 : decide (t136 < 0) = false := decide_eq_false c61; clear c61; by_cases c64 : t136 = t134
           ·rw [if_pos c64] at H; have c64b0 : (t136 == t134) = true := beq_iff_eq.mpr c64; have c64b1 : (t136 != t134) = false := bne_eq_false_iff_eq.mpr c64; clear c64; replace H := Option.bind_eq_some_iff.mp H; obtain ⟨⟨t137, t140, t141⟩, A650, H⟩ := H; replace H : ((impl_BestLots.f kj39 t137 t140 t141).bind fun bt142 => ((laws_eqIntS.f kj39 bt142.1 t108).bind fun t147 => (if t147 = true then (if bt142.2.1 = t111 then (laws_FnExactBestLots.j2 kj39 t135 t134 (bt142.2.2 != t112)) else (laws_FnExactBestLots.j2 kj39 t135 t134 true)) else (laws_FnExactBestLots.j2 kj39 t135 t134 true)))) = some r := H; have A65 := Aside0.mk A650; clear A650; replace H := Option.bind_eq_some_iff.mp H; obtain ⟨⟨t142, t145, t146⟩, A660, H⟩ := H; replace H : ((laws_eqIntS.f kj39 t142 t108).bind fun t147 => (if t147 = true then (if t145 = t111 then (laws_FnExactBestLots.j2 kj39 t135 t134 (t146 != t112)) else (laws_FnExactBestLots.j2 kj39 t135 t134 true)) else (laws_FnExactBestLots.j2 kj39 t135 t134 true))) = some r := H; have A66 := Aside0.mk A660; clear A660; have HC67 := Aside0.mk H; clear H; obtain ⟨Ao68, co68, eo68⟩ := Kd.R_slice HO_8.out; subst eo68
            go_upto_region 25 with (first | ((with_reducible refine Qo (f := 27) rfl ?_); refine goesL_ (some 79) rfl rfl Try.func27 (by kernel_rfl) rfl #[.slice Ao68 t119.length co68, .int .i64 1] rfl (by (try simp only [List.map_toArray, List.map_cons, List.map_nil]); first | done | rfl | (simp only [List.length_drop, List.length_take]; rfl)) ?_; (with_reducible refine (laws_markIntS.calls kj39 (fun k_ => some k_ = (.slice Ao68 t119.length co68 : Value).ownBlock) (.slice Ao68 t119.length co68) t119 1 t134 t135 w _ ?side1 ?side2 A59.out).mono ?_); (case side1 => repeat (first | (with_reducible first | exact HB.out | apply Qc | apply Qa | apply Qb | refine Qe ?_ GE101.out) | exact HB.out)); (case side2 => exact Kd.R_tight rfl HO_8.out); rintro e w69 ⟨rfl, hy0, hb, hkp⟩; refine ⟨_, rfl, ?_⟩; have n0_ := Aside0.mk (Kd.R_mono (ok' := fun k_ => some k_ ≠ (.slice Ao68 t119.length co68 : Value).ownBlock) (Kd.R_keptB (HO_4.out) hkp (fun k_ hk_ hs_ => (hk_) hs_)) (fun k_ hk_ => hk_.1)); have n1_ := Aside0.mk (Kd.R_reok rfl hy0 (fun k_ e_ => HO_8.out.1 k_ e_)); have n2_ := Aside0.mk (blk_kept (by (with_reducible repeat (first | refine Qh ?_ _ | refine Qi ?_ | refine Qg ?_ _)); exact BK101.out) hkp (fun hs_ => (fun e_ => (Kd.R_ne HO_8.out BK101.out (by decide)) e_) hs_)); have n3_ := Aside0.mk (hb); clear HO_4; clear HO_8; clear BK101; clear HB; have HO_4 := n0_; have HO_8 := n1_; have BK101 := n2_; have HB := n3_; clear n0_ n1_ n2_ n3_; (try clear hb); (try clear hkp); (try clear hy0)) | ((with_reducible refine Qo (f := 28) rfl ?_); refine goesL_ (some 82) rfl rfl Try.func28 (by kernel_rfl) rfl #[.slice Ao68 t135.length co68, .int .i64 1] rfl (by (try simp only [List.map_toArray, List.map_cons, List.map_nil]); first | done | (rw [show t135.length = t119.length from (Kd.Qn HO_8.out).1.symm] <;> rfl) | rfl | (simp only [List.length_drop, List.length_take]; rfl)) ?_; (with_reducible refine (laws_heldIntS.calls kj39 _ _ t135 1 t136 _ ?side1 ?side2 A60.out).mono ?_); (case side1 => repeat (first | exact (Kd.Qn HO_8.out).2.2 | (with_reducible refine Kd.C_alloc ?_ _) | (with_reducible refine Kd.C_drewN ?_ _) | (with_reducible refine Kd.C_drew ?_))); (case side2 => rw [show t135.length = t119.length from (Kd.Qn HO_8.out).1.symm]; exact (Kd.Qn HO_8.out).2.1); rintro e w' ⟨rfl, ⟨nd, rfl⟩⟩; refine ⟨_, rfl, ?_⟩; have hcz70_0 : w69.cell? ⟨gb101, 0, none⟩ = some (.slice A0_0 l0_0.length c0_0) := (Qd BK101.out 0).trans rfl; have hcz70_1 : w69.cell? ⟨gb101, 1, none⟩ = some (.int .i64 a0_1) := (Qd BK101.out 1).trans rfl; have hcz70_2 : w69.cell? ⟨gb101, 2, none⟩ = some (.int .i64 a0_2) := (Qd BK101.out 2).trans rfl; have hfz70_0 := Qf BK101.out 0; have hfz70_1 := Qf BK101.out 1; have hfz70_2 := Qf BK101.out 2) | ((with_reducible refine Qo (f := 17) rfl ?_); refine goesL_ (some 90) rfl rfl Try.func17 (by kernel_rfl) rfl #[.agg #[.slice A0_0 l0_0.length c0_0, .int .i64 a0_1, .int .i64 a0_2]] rfl (by (try simp only [List.map_toArray, List.map_cons, List.map_nil]); first | done | rfl | (simp only [List.length_drop, List.length_take]; rfl)) ?_; (with_reducible refine (laws_toTrade.calls kj39 _ _ l0_0 a0_1 a0_2 t137 t140 t141 _ ?side1 ?side2 A65.out).mono ?_); (case side1 => repeat (first | exact (Kd.C_below HR0_0.out (by repeat (first | (with_reducible first | exact HB.out | apply Qc | apply Qa | apply Qb | refine Qe ?_ GE101.out) | exact HB.out))) | (with_reducible refine Kd.C_alloc ?_ _) | (with_reducible refine Kd.C_drewN ?_ _) | (with_reducible refine Kd.C_drew ?_))); (case side2 => exact HC0_0.out); rintro e w71 ⟨v138, rfl, ho0, hb⟩; refine ⟨_, rfl, ?_⟩; have n0_ := Aside0.mk (Kd.R_elder' (by (with_reducible repeat (first | apply Kd.Qj | apply Kd.Qk | apply Kd.R_drew)); exact HO_4.out) (Kd.R_base ho0) hb); have n1_ := Aside0.mk (Kd.R_elder' (by (with_reducible repeat (first | apply Kd.Qj | apply Kd.Qk | apply Kd.R_drew)); exact HO_8.out) (Kd.R_base ho0) hb); have n2_ := Aside0.mk (Kd.R_lower (Kd.R_new' (Kd.R_new' ho0 (Kd.R_lt (by (with_reducible repeat (first | apply Kd.Qj | apply Kd.Qk | apply Kd.R_drew)); exact HO_4.out))) (Kd.R_lt (by (with_reducible repeat (first | apply Kd.Qj | apply Kd.Qk | apply Kd.R_drew)); exact HO_8.out))) (Ql (by repeat (first | (with_reducible first | exact HB.out | apply Qc | apply Qa | apply Qb | refine Qe ?_ GE101.out) | exact HB.out)))); have n3_ := Aside0.mk (Qp (g := gb101) (o := .cells #[.slice A0_0 l0_0.length c0_0, .int .i64 a0_1, .int .i64 a0_2] 24 (0, 0)) (by (with_reducible repeat (first | refine Qh ?_ _ | refine Qi ?_ | refine Qg ?_ _)); exact BK101.out) hb); have n4_ := Aside0.mk (Qm (by repeat (first | (with_reducible first | exact HB.out | apply Qc | apply Qa | apply Qb | refine Qe ?_ GE101.out) | exact HB.out)) hb); clear HO_4; clear HO_8; clear BK101; clear HB; have HO_4 := n0_; have HO_8 := n1_; have HO139 := n2_; have BK101 := n3_; have HB := n4_; clear n0_ n1_ n2_ n3_ n4_; (try clear hb); (try clear hb2); (try clear hk); (try clear hi); (try clear ho0); obtain ⟨Ao72, co72, eo72⟩ := Kd.R_slice HO139.out; subst eo72) | ((with_reducible refine Qo (f := 51) rfl ?_); refine goesL_ (some 91) rfl rfl Try.func51 (by kernel_rfl) rfl #[.agg #[.slice Ao72 t137.length co72, .int .i64 t140, .int .i64 t141]] rfl (by (try simp only [List.map_toArray, List.map_cons, List.map_nil]); first | done | rfl | (simp only [List.length_drop, List.length_take]; rfl)) ?_; (with_reducible refine (impl_BestLots.calls kj39 _ _ t137 t140 t141 t142 t145 t146 _ ?side1 ?side2 A66.out).mono ?_); (case side1 => repeat (first | exact (Kd.Qn HO139.out).2.2 | (with_reducible refine Kd.C_alloc ?_ _) | (with_reducible refine Kd.C_drewN ?_ _) | (with_reducible refine Kd.C_drew ?_))); (case side2 => exact (Kd.Qn HO139.out).2.1); rintro e w73 ⟨v143, rfl, ho0, hb⟩; refine ⟨_, rfl, ?_⟩; have n0_ := Aside0.mk (Kd.R_elder' (by (with_reducible repeat (first | apply Kd.Qj | apply Kd.Qk | apply Kd.R_drew)); exact HO_4.out) (Kd.R_base ho0) hb); have n1_ := Aside0.mk (Kd.R_elder' (by (with_reducible repeat (first | apply Kd.Qj | apply Kd.Qk | apply Kd.R_drew)); exact HO_8.out) (Kd.R_base ho0) hb); have n2_ := Aside0.mk (Kd.R_elder' (by (with_reducible repeat (first | apply Kd.Qj | apply Kd.Qk | apply Kd.R_drew)); exact HO139.out) (Kd.R_base ho0) hb); have n3_ := Aside0.mk (Kd.R_lower (Kd.R_new' (Kd.R_new' (Kd.R_new' ho0 (Kd.R_lt (by (with_reducible repeat (first | apply Kd.Qj | apply Kd.Qk | apply Kd.R_drew)); exact HO_4.out))) (Kd.R_lt (by (with_reducible repeat (first | apply Kd.Qj | apply Kd.Qk | apply Kd.R_drew)); exact HO_8.out))) (Kd.R_lt (by (with_reducible repeat (first | apply Kd.Qj | apply Kd.Qk | apply Kd.R_drew)); exact HO139.out))) (Ql (by repeat (first | (with_reducible first | exact HB.out | apply Qc | apply Qa | apply Qb | refine Qe ?_ GE101.out) | exact HB.out)))); have n4_ := Aside0.mk (Qp (g := gb101) (o := .cells #[.slice A0_0 l0_0.length c0_0, .int .i64 a0_1, .int .i64 a0_2] 24 (0, 0)) (by (with_reducible repeat (first | refine Qh ?_ _ | refine Qi ?_ | refine Qg ?_ _)); exact BK101.out) hb); have n5_ := Aside0.mk (Qm (by repeat (first | (with_reducible first | exact HB.out | apply Qc | apply Qa | apply Qb | refine Qe ?_ GE101.out) | exact HB.out)) hb); clear HO_4; clear HO_8; clear HO139; clear BK101; clear HB; have HO_4 := n0_; have HO_8 := n1_; have HO139 := n2_; have HO144 := n3_; have BK101 := n4_; have HB := n5_; clear n0_ n1_ n2_ n3_ n4_ n5_; (try clear hb); (try clear hb2); (try clear hk); (try clear hi); (try clear ho0)))
            (try simp only [Act.put, List.setIfInBounds_toArray, List.set_cons_zero, List.set_cons_succ])
            go_cut [108] (fun v108 wc => ∃ (kq : Nat) (x108_66 : Bool), v108 = .bool x108_66 ∧ Aside0 (laws_FnExactBestLots.j2 kq t135 t134 x108_66 = some r) ∧ Aside0 (kq ≤ kj39) ∧ Aside0 (Kd.R (Kd.int .i64) 3 wc w.heap.size (fun _ => True) (.slice Ao68 t119.length co68) t135) ∧ Aside0 (Below w.heap.size w wc))
            case first =>
             have H := HC67.out; clear HC67; replace H := Option.bind_eq_some_iff.mp H; obtain ⟨t147, A740, H⟩ := H; replace H : (if t147 = true then (if t145 = t111 then (laws_FnExactBestLots.j2 kj39 t135 t134 (t146 != t112)) else (laws_FnExactBestLots.j2 kj39 t135 t134 true)) else (laws_FnExactBestLots.j2 kj39 t135 t134 true)) = some r := H; have A74 := Aside0.mk A740; clear A740; by_cases c75 : t147 = true
             ·subst c75; have H1 : (if t145 = t111 then (laws_FnExactBestLots.j2 kj39 t135 t134 (t146 != t112)) else (laws_FnExactBestLots.j2 kj39 t135 t134 true)) = some r := by rw [if_pos rfl] at H; exact H
              clear H; have H := H1; clear H1; by_cases c76 : t145 = t111
              ·rw [if_pos c76] at H; have c76b0 : (t145 == t111) = true := beq_iff_eq.mpr c76; have c76b1 : (t145 != t111) = false := bne_eq_false_iff_eq.mpr c76; clear c76
               (first | rw [c76b0] | (simp only [i64_w, i32_w]; rw [c76b0]) | skip)
               have H' := Aside0.mk H; clear H; obtain ⟨Ao77, co77, eo77⟩ := Kd.R_slice HO144.out; subst eo77; obtain ⟨Ao78, co78, eo78⟩ := Kd.R_slice HO_4.out; subst eo78; go_wp2_with (first | ((with_reducible refine Qo (f := 21) rfl ?_); refine goesL_ (some 97) rfl rfl Try.func21 (by kernel_rfl) rfl #[.slice Ao77 t142.length co77, .slice Ao78 t108.length co78] rfl (by (try simp only [List.map_toArray, List.map_cons, List.map_nil]); first | done | rfl | (simp only [List.length_drop, List.length_take]; rfl)) ?_; (with_reducible refine (laws_eqIntS.calls kj39 _ _ t142 _ _ t108 true _ ?side1 ?side2 ?side3 ?side4 A74.out).mono ?_); (case side1 => repeat (first | exact (Kd.Qn HO144.out).2.2 | (with_reducible refine Kd.C_alloc ?_ _) | (with_reducible refine Kd.C_drewN ?_ _) | (with_reducible refine Kd.C_drew ?_))); (case side2 => exact (Kd.Qn HO144.out).2.1); (case side3 => repeat (first | exact (Kd.Qn HO_4.out).2.2 | (with_reducible refine Kd.C_alloc ?_ _) | (with_reducible refine Kd.C_drewN ?_ _) | (with_reducible refine Kd.C_drew ?_))); (case side4 => exact (Kd.Qn HO_4.out).2.1); rintro e w' ⟨rfl, ⟨nd, rfl⟩⟩; refine ⟨_, rfl, ?_⟩))
               go_meet
               case rel => exact ⟨_, ((t146 != t112)), (by first | rfl | (simp; done) | (simp [*]; done)), H', ⟨by have := HJ10.out; have := HJ39.out; first | omega | exact Nat.le_refl _⟩, ⟨by (with_reducible repeat (first | apply Kd.Qj | apply Kd.Qk | apply Kd.R_drew)); exact Kd.R_mono HO_8.out (fun _ hk => trivial)⟩, ⟨by repeat (first | (with_reducible first | exact HB.out | apply Qc | apply Qa | apply Qb | refine Qe ?_ GE101.out) | exact HB.out)⟩⟩
              ·rw [if_neg c76] at H; have c76b0 : (t145 == t111) = false := beq_eq_false_iff_ne.mpr c76; have c76b1 : (t145 != t111) = true := bne_iff_ne.mpr c76
               (first | rw [c76b0] | (simp only [i64_w, i32_w]; rw [c76b0]) | skip)
               have H' := Aside0.mk H; clear H; obtain ⟨Ao79, co79, eo79⟩ := Kd.R_slice HO144.out; subst eo79; obtain ⟨Ao80, co80, eo80⟩ := Kd.R_slice HO_4.out; subst eo80; go_wp2_with (first | ((with_reducible refine Qo (f := 21) rfl ?_); refine goesL_ (some 97) rfl rfl Try.func21 (by kernel_rfl) rfl #[.slice Ao79 t142.length co79, .slice Ao80 t108.length co80] rfl (by (try simp only [List.map_toArray, List.map_cons, List.map_nil]); first | done | rfl | (simp only [List.length_drop, List.length_take]; rfl)) ?_; (with_reducible refine (laws_eqIntS.calls kj39 _ _ t142 _ _ t108 true _ ?side1 ?side2 ?side3 ?side4 A74.out).mono ?_); (case side1 => repeat (first | exact (Kd.Qn HO144.out).2.2 | (with_reducible refine Kd.C_alloc ?_ _) | (with_reducible refine Kd.C_drewN ?_ _) | (with_reducible refine Kd.C_drew ?_))); (case side2 => exact (Kd.Qn HO144.out).2.1); (case side3 => repeat (first | exact (Kd.Qn HO_4.out).2.2 | (with_reducible refine Kd.C_alloc ?_ _) | (with_reducible refine Kd.C_drewN ?_ _) | (with_reducible refine Kd.C_drew ?_))); (case side4 => exact (Kd.Qn HO_4.out).2.1); rintro e w' ⟨rfl, ⟨nd, rfl⟩⟩; refine ⟨_, rfl, ?_⟩))
               go_meet
               case rel => exact ⟨_, (true), (by first | rfl | (simp; done) | (simp [*]; done)), H', ⟨by have := HJ10.out; have := HJ39.out; first | omega | exact Nat.le_refl _⟩, ⟨by (with_reducible repeat (first | apply Kd.Qj | apply Kd.Qk | apply Kd.R_drew)); exact Kd.R_mono HO_8.out (fun _ hk => trivial)⟩, ⟨by repeat (first | (with_reducible first | exact HB.out | apply Qc | apply Qa | apply Qb | refine Qe ?_ GE101.out) | exact HB.out)⟩⟩
             ·replace c75 := Bool.eq_false_iff.mpr c75; subst c75; have H1 : (laws_FnExactBestLots.j2 kj39 t135 t134 true) = some r := by rw [if_neg (show ¬ (false = true) by decide)] at H; exact H
              clear H; have H := H1; clear H1; have H' := Aside0.mk H; clear H; obtain ⟨Ao81, co81, eo81⟩ := Kd.R_slice HO144.out; subst eo81; obtain ⟨Ao82, co82, eo82⟩ := Kd.R_slice HO_4.out; subst eo82; go_wp2_with (first | ((with_reducible refine Qo (f := 21) rfl ?_); refine goesL_ (some 97) rfl rfl Try.func21 (by kernel_rfl) rfl #[.slice Ao81 t142.length co81, .slice Ao82 t108.length co82] rfl (by (try simp only [List.map_toArray, List.map_cons, List.map_nil]); first | done | rfl | (simp only [List.length_drop, List.length_take]; rfl)) ?_; (with_reducible refine (laws_eqIntS.calls kj39 _ _ t142 _ _ t108 false _ ?side1 ?side2 ?side3 ?side4 A74.out).mono ?_); (case side1 => repeat (first | exact (Kd.Qn HO144.out).2.2 | (with_reducible refine Kd.C_alloc ?_ _) | (with_reducible refine Kd.C_drewN ?_ _) | (with_reducible refine Kd.C_drew ?_))); (case side2 => exact (Kd.Qn HO144.out).2.1); (case side3 => repeat (first | exact (Kd.Qn HO_4.out).2.2 | (with_reducible refine Kd.C_alloc ?_ _) | (with_reducible refine Kd.C_drewN ?_ _) | (with_reducible refine Kd.C_drew ?_))); (case side4 => exact (Kd.Qn HO_4.out).2.1); rintro e w' ⟨rfl, ⟨nd, rfl⟩⟩; refine ⟨_, rfl, ?_⟩))
              go_meet
              case rel => exact ⟨_, (true), (by first | rfl | (simp; done) | (simp [*]; done)), H', ⟨by have := HJ10.out; have := HJ39.out; first | omega | exact Nat.le_refl _⟩, ⟨by (with_reducible repeat (first | apply Kd.Qj | apply Kd.Qk | apply Kd.R_drew)); exact Kd.R_mono HO_8.out (fun _ hk => trivial)⟩, ⟨by repeat (first | (with_reducible first | exact HB.out | apply Qc | apply Qa | apply Qb | refine Qe ?_ GE101.out) | exact HB.out)⟩⟩
            case rest =>
             clear HC67; (try clear c1); (try clear c2); (try clear p2); (try clear c3); (try clear c3b0); (try clear c4); (try clear c5); (try clear c6); (try clear c7); (try clear c9); (try clear c15); (try clear c17); (try clear c20); (try clear c21); (try clear c23); (try clear c26); (try clear c27); (try clear c28); (try clear c28b0); (try clear c28b1); (try clear c35); (try clear c38); (try clear c45); (try clear c48); (try clear c48b0); (try clear c50); (try clear c51); (try clear c51b0); (try clear c51b1); (try clear c58); (try clear c61); (try clear c61b0); (try clear c64); (try clear c64b0); (try clear c64b1); (try clear c75); (try clear c76); (try clear c76b0); (try clear c76b1); (try clear hcz13_0); (try clear hcz13_1); (try clear hcz13_2); (try clear hcz15_0); (try clear hcz15_1); (try clear hcz15_2); (try clear hcz19_0); (try clear hcz19_1); (try clear hcz19_2); (try clear hcz24_0); (try clear hcz24_1); (try clear hcz24_2); (try clear hcz46_0); (try clear hcz46_1); (try clear hcz46_2); (try clear hcz5_0); (try clear hcz5_1); (try clear hcz5_2); (try clear hcz70_0); (try clear hcz70_1); (try clear hcz70_2); (try clear hfz13_0); (try clear hfz13_1); (try clear hfz13_2); (try clear hfz15_0); (try clear hfz15_1); (try clear hfz15_2); (try clear hfz19_0); (try clear hfz19_1); (try clear hfz19_2); (try clear hfz24_0); (try clear hfz24_1); (try clear hfz24_2); (try clear hfz46_0); (try clear hfz46_1); (try clear hfz46_2); (try clear hfz5_0); (try clear hfz5_1); (try clear hfz5_2); (try clear hfz70_0); (try clear hfz70_1); (try clear hfz70_2); (try clear p2); obtain ⟨kq, x108_66, rfl, HA, HJ66, HO_8, HB⟩ := hcut; have hl8_66 := (Kd.Qn HO_8.out).1; rw [hl8_66] at HO_8; (try simp only [hl8_66])
             cases kq with
             | zero => exact absurd HA.out (by simp [laws_FnExactBestLots.j2])
             | succ kj66 =>
              have H := HA.out; clear HA; simp only [laws_FnExactBestLots.j2] at H; by_cases c83 : x108_66 = true
              ·subst c83; have H1 : (some false) = some r := by rw [if_pos rfl] at H; exact H
               clear H; have H := H1; clear H1; obtain rfl := Option.some.inj H; go_wp2
               go_ret
               exact ⟨by first | rfl | (simp [errW_none, errW_some] <;> rfl) | (simp [*, errW_none, errW_some] <;> rfl), by repeat (first | (with_reducible first | exact HB.out | apply Qc | apply Qa | apply Qb) | exact HB.out)⟩
              ·replace c83 := Bool.eq_false_iff.mpr c83; subst c83; have H1 : ((laws_heldIntS.f kj66 t135 1).bind fun t148 => (if t148 < 0 then (some false) else (if t148 = t134 then (some true) else (some false)))) = some r := by rw [if_neg (show ¬ (false = true) by decide)] at H; exact H
               clear H; have H := H1; clear H1; replace H := Option.bind_eq_some_iff.mp H; obtain ⟨t148, A840, H⟩ := H; replace H : (if t148 < 0 then (some false) else (if t148 = t134 then (some true) else (some false))) = some r := H; have A84 := Aside0.mk A840; clear A840; by_cases c85 : t148 < 0
               ·rw [if_pos c85] at H; have c85b0 : decide (t148 < 0) = true := decide_eq_true c85; clear c85; obtain rfl := Option.some.inj H; go_wp2_with (first | ((with_reducible refine Qo (f := 28) rfl ?_); refine goesL_ (some 111) rfl rfl Try.func28 (by kernel_rfl) rfl #[.slice Ao68 t135.length co68, .int .i64 1] rfl (by (try simp only [List.map_toArray, List.map_cons, List.map_nil]); first | done | rfl | (simp only [List.length_drop, List.length_take]; rfl)) ?_; (with_reducible refine (laws_heldIntS.calls kj66 _ _ t135 1 t148 _ ?side1 ?side2 A84.out).mono ?_); (case side1 => repeat (first | exact (Kd.Qn HO_8.out).2.2 | (with_reducible refine Kd.C_alloc ?_ _) | (with_reducible refine Kd.C_drewN ?_ _) | (with_reducible refine Kd.C_drew ?_))); (case side2 => exact (Kd.Qn HO_8.out).2.1); rintro e w' ⟨rfl, ⟨nd, rfl⟩⟩; refine ⟨_, rfl, ?_⟩))
                go_ret
                exact ⟨by first | rfl | (simp [errW_none, errW_some] <;> rfl) | (simp [*, errW_none, errW_some] <;> rfl), by repeat (first | (with_reducible first | exact HB.out | apply Qc | apply Qa | apply Qb) | exact HB.out)⟩
               ·rw [if_neg c85] at H; have c85b0 : decide (t148 < 0) = false := decide_eq_false c85; clear c85; by_cases c86 : t148 = t134
                ·rw [if_pos c86] at H; have c86b0 : (t148 == t134) = true := beq_iff_eq.mpr c86; have c86b1 : (t148 != t134) = false := bne_eq_false_iff_eq.mpr c86; clear c86; obtain rfl := Option.some.inj H; go_wp2_with (first | ((with_reducible refine Qo (f := 28) rfl ?_); refine goesL_ (some 111) rfl rfl Try.func28 (by kernel_rfl) rfl #[.slice Ao68 t135.length co68, .int .i64 1] rfl (by (try simp only [List.map_toArray, List.map_cons, List.map_nil]); first | done | rfl | (simp only [List.length_drop, List.length_take]; rfl)) ?_; (with_reducible refine (laws_heldIntS.calls kj66 _ _ t135 1 t148 _ ?side1 ?side2 A84.out).mono ?_); (case side1 => repeat (first | exact (Kd.Qn HO_8.out).2.2 | (with_reducible refine Kd.C_alloc ?_ _) | (with_reducible refine Kd.C_drewN ?_ _) | (with_reducible refine Kd.C_drew ?_))); (case side2 => exact (Kd.Qn HO_8.out).2.1); rintro e w' ⟨rfl, ⟨nd, rfl⟩⟩; refine ⟨_, rfl, ?_⟩))
                 go_ret
                 exact ⟨by first | rfl | (simp [errW_none, errW_some] <;> rfl) | (simp [*, errW_none, errW_some] <;> rfl), by repeat (first | (with_reducible first | exact HB.out | apply Qc | apply Qa | apply Qb) | exact HB.out)⟩
                ·rw [if_neg c86] at H; have c86b0 : (t148 == t134) = false := beq_eq_false_iff_ne.mpr c86; have c86b1 : (t148 != t134) = true := bne_iff_ne.mpr c86; obtain rfl := Option.some.inj H; go_wp2_with (first | ((with_reducible refine Qo (f := 28) rfl ?_); refine goesL_ (some 111) rfl rfl Try.func28 (by kernel_rfl) rfl #[.slice Ao68 t135.length co68, .int .i64 1] rfl (by (try simp only [List.map_toArray, List.map_cons, List.map_nil]); first | done | rfl | (simp only [List.length_drop, List.length_take]; rfl)) ?_; (with_reducible refine (laws_heldIntS.calls kj66 _ _ t135 1 t148 _ ?side1 ?side2 A84.out).mono ?_); (case side1 => repeat (first | exact (Kd.Qn HO_8.out).2.2 | (with_reducible refine Kd.C_alloc ?_ _) | (with_reducible refine Kd.C_drewN ?_ _) | (with_reducible refine Kd.C_drew ?_))); (case side2 => exact (Kd.Qn HO_8.out).2.1); rintro e w' ⟨rfl, ⟨nd, rfl⟩⟩; refine ⟨_, rfl, ?_⟩))
                 go_ret
                 exact ⟨by first | rfl | (simp [errW_none, errW_some] <;> rfl) | (simp [*, errW_none, errW_some] <;> rfl), by repeat (first | (with_reducible first | exact HB.out | apply Qc | apply Qa | apply Qb) | exact HB.out)⟩
           ·rw [if_neg c64] at H; have c64b0 : (t136 == t134) = false := beq_eq_false_iff_ne.mpr c64; have c64b1 : (t136 != t134) = true := bne_iff_ne.mpr c64; obtain rfl := Option.some.inj H; obtain ⟨Ao87, co87, eo87⟩ := Kd.R_slice HO_8.out; subst eo87; go_wp2_with (first | ((with_reducible refine Qo (f := 27) rfl ?_); refine goesL_ (some 79) rfl rfl Try.func27 (by kernel_rfl) rfl #[.slice Ao87 t119.length co87, .int .i64 1] rfl (by (try simp only [List.map_toArray, List.map_cons, List.map_nil]); first | done | rfl | (simp only [List.length_drop, List.length_take]; rfl)) ?_; (with_reducible refine (laws_markIntS.calls kj39 (fun k_ => some k_ = (.slice Ao87 t119.length co87 : Value).ownBlock) (.slice Ao87 t119.length co87) t119 1 t134 t135 w _ ?side1 ?side2 A59.out).mono ?_); (case side1 => repeat (first | (with_reducible first | exact HB.out | apply Qc | apply Qa | apply Qb | refine Qe ?_ GE101.out) | exact HB.out)); (case side2 => exact Kd.R_tight rfl HO_8.out); rintro e w88 ⟨rfl, hy0, hb, hkp⟩; refine ⟨_, rfl, ?_⟩; have n0_ := Aside0.mk (Kd.R_mono (ok' := fun k_ => some k_ ≠ (.slice Ao87 t119.length co87 : Value).ownBlock) (Kd.R_keptB (HO_4.out) hkp (fun k_ hk_ hs_ => (hk_) hs_)) (fun k_ hk_ => hk_.1)); have n1_ := Aside0.mk (Kd.R_reok rfl hy0 (fun k_ e_ => HO_8.out.1 k_ e_)); have n2_ := Aside0.mk (blk_kept (by (with_reducible repeat (first | refine Qh ?_ _ | refine Qi ?_ | refine Qg ?_ _)); exact BK101.out) hkp (fun hs_ => (fun e_ => (Kd.R_ne HO_8.out BK101.out (by decide)) e_) hs_)); have n3_ := Aside0.mk (hb); clear HO_4; clear HO_8; clear BK101; clear HB; have HO_4 := n0_; have HO_8 := n1_; have BK101 := n2_; have HB := n3_; clear n0_ n1_ n2_ n3_; (try clear hb); (try clear hkp); (try clear hy0)) | ((with_reducible refine Qo (f := 28) rfl ?_); refine goesL_ (some 82) rfl rfl Try.func28 (by kernel_rfl) rfl #[.slice Ao87 t135.length co87, .int .i64 1] rfl (by (try simp only [List.map_toArray, List.map_cons, List.map_nil]); first | done | (rw [show t135.length = t119.length from (Kd.Qn HO_8.out).1.symm] <;> rfl) | rfl | (simp only [List.length_drop, List.length_take]; rfl)) ?_; (with_reducible refine (laws_heldIntS.calls kj39 _ _ t135 1 t136 _ ?side1 ?side2 A60.out).mono ?_); (case side1 => repeat (first | exact (Kd.Qn HO_8.out).2.2 | (with_reducible refine Kd.C_alloc ?_ _) | (with_reducible refine Kd.C_drewN ?_ _) | (with_reducible refine Kd.C_drew ?_))); (case side2 => rw [show t135.length = t119.length from (Kd.Qn HO_8.out).1.symm]; exact (Kd.Qn HO_8.out).2.1); rintro e w' ⟨rfl, ⟨nd, rfl⟩⟩; refine ⟨_, rfl, ?_⟩))
            go_ret
            exact ⟨by first | rfl | (simp [errW_none, errW_some] <;> rfl) | (simp [*, errW_none, errW_some] <;> rfl), by repeat (first | (with_reducible first | exact HB.out | apply Qc | apply Qa | apply Qb | refine Qe ?_ GE101.out) | exact HB.out)⟩
      ·replace c38 := Bool.eq_false_iff.mpr c38; subst c38; have H1 : (some false) = some r := by rw [if_neg (show ¬ (false = true) by decide)] at H; exact H
       clear H; have H := H1; clear H1; obtain rfl := Option.some.inj H
       try go_wp2
       have n0_ := Aside0.mk (Kd.R_drew HO_4.out); have n1_ := Aside0.mk (Kd.R_drew HO_8.out); have n2_ := Aside0.mk (Kd.R_drew HO_119000.out); have n3_ := Aside0.mk (Qi BK101.out); have n4_ := Aside0.mk (Qi BK118.out); have n5_ := Aside0.mk (Qb HB.out); clear HO_4; clear HO_8; clear HO_119000; clear BK101; clear BK118; clear HB; have HO_4 := n0_; have HO_8 := n1_; have HO_119000 := n2_; have BK101 := n3_; have BK118 := n4_; have HB := n5_; clear n0_ n1_ n2_ n3_ n4_ n5_; refine start_ (n := 5) (S := fun w' => w'.cell? ⟨gb118, 0, none⟩ = some (.slice Ao22 t113.length co22) ∧ w'.cell? ⟨gb118, 1, none⟩ = some (.int .i64 t116) ∧ w'.cell? ⟨gb118, 2, none⟩ = some (.int .i64 t117) ∧ w'.cell? ⟨gb101, 0, none⟩ = some (.slice A0_0 l0_0.length c0_0) ∧ w'.cell? ⟨gb101, 1, none⟩ = some (.int .i64 a0_1) ∧ w'.cell? ⟨gb101, 2, none⟩ = some (.int .i64 a0_2)) (ds := []) #[false, false, false, false, false] (by kernel_rfl) rfl rfl ⟨(Qd BK118.out 0).trans rfl, (Qd BK118.out 1).trans rfl, (Qd BK118.out 2).trans rfl, (Qd BK101.out 0).trans rfl, (Qd BK101.out 1).trans rfl, (Qd BK101.out 2).trans rfl⟩ (fun hHeld => ?_)
       generalize wc.drew = w89 at HO_4 HO_8 HO_119000 BK101 BK118 HB hHeld ⊢
       refine take_ (i := 0) (N := some 51) (v := ?_) (a' := ?_) #[true, false, false, false, false] rfl rfl (by kernel_rfl) (fun _ _ _ h => h) (Or.inl ⟨by rfl, ?_⟩) hHeld ?_ ?_
       rotate_left
       ·rintro w' ⟨s0, s1, s2, s3, s4, s5⟩
        go_simp
        with_reducible rfl
       rotate_left
       ·simp only [Act.put, List.setIfInBounds_toArray, List.set_cons_zero, List.set_cons_succ, i64_w, i32_w]
        rfl
       refine take_ (i := 1) (N := some 52) (v := ?_) (a' := ?_) #[true, true, false, false, false] rfl rfl (by kernel_rfl) (fun _ _ _ h => h) (Or.inl ⟨by rfl, ?_⟩) hHeld ?_ ?_
       rotate_left
       ·rintro w' ⟨s0, s1, s2, s3, s4, s5⟩
        go_simp
        with_reducible rfl
       rotate_left
       ·simp only [Act.put, List.setIfInBounds_toArray, List.set_cons_zero, List.set_cons_succ, i64_w, i32_w]
        rfl
       refine one_ (i := 2) (N := some 53) #[true, true, true, false, false] rfl rfl (by kernel_rfl) (by decide) (fun K hK => ?_)
       first | (refine goes_ Try.func17 (by kernel_rfl) rfl #[.agg #[.slice A0_0 l0_0.length c0_0, .int .i64 a0_1, .int .i64 a0_2]] (by rfl) rfl rfl (by (try simp only [List.map_toArray, List.map_cons, List.map_nil]); first | done | rfl | (simp only [List.length_drop, List.length_take]; rfl)) ?_) | (refine call_ 17 #[.agg #[.slice A0_0 l0_0.length c0_0, .int .i64 a0_1, .int .i64 a0_2]] (by rfl) rfl (by unfold execOp; simp [resolve, Deferred.ofValue, invoke, Act.eval, enters_ Try.func17 (by kernel_rfl) rfl]) ?_)
       with_reducible refine (laws_toTrade.calls kj10 _ _ l0_0 a0_1 a0_2 t125 t128 t129 _ ?side1 ?side2 A36.out).mono ?_
       (case side1 => repeat (first | exact (Kd.C_below HR0_0.out HB.out) | (with_reducible refine Kd.C_alloc ?_ _) | (with_reducible refine Kd.C_drewN ?_ _) | (with_reducible refine Kd.C_drew ?_)))
       (case side2 => exact HC0_0.out)
       rintro e w90 ⟨v126, rfl, ho0, hb⟩
       refine ⟨_, rfl, ?_⟩; have n0_ := Aside0.mk (Kd.R_elder' (by (with_reducible repeat (first | apply Kd.Qj | apply Kd.Qk | apply Kd.R_drew)); exact HO_4.out) (Kd.R_base ho0) hb); have n1_ := Aside0.mk (Kd.R_elder' (by (with_reducible repeat (first | apply Kd.Qj | apply Kd.Qk | apply Kd.R_drew)); exact HO_8.out) (Kd.R_base ho0) hb); have n2_ := Aside0.mk (Kd.R_elder' (by (with_reducible repeat (first | apply Kd.Qj | apply Kd.Qk | apply Kd.R_drew)); exact HO_119000.out) (Kd.R_base ho0) hb); have n3_ := Aside0.mk (Kd.R_lower (Kd.R_new' (Kd.R_new' (Kd.R_new' ho0 (Kd.R_lt (by (with_reducible repeat (first | apply Kd.Qj | apply Kd.Qk | apply Kd.R_drew)); exact HO_4.out))) (Kd.R_lt (by (with_reducible repeat (first | apply Kd.Qj | apply Kd.Qk | apply Kd.R_drew)); exact HO_8.out))) (Kd.R_lt (by (with_reducible repeat (first | apply Kd.Qj | apply Kd.Qk | apply Kd.R_drew)); exact HO_119000.out))) (Ql (by repeat (first | (with_reducible first | exact HB.out | apply Qc | apply Qa | apply Qb | refine Qe ?_ GE101.out | refine Qe ?_ GE118.out) | exact HB.out)))); have n4_ := Aside0.mk (Qp (g := gb101) (o := .cells #[.slice A0_0 l0_0.length c0_0, .int .i64 a0_1, .int .i64 a0_2] 24 (0, 0)) (by (with_reducible repeat (first | refine Qh ?_ _ | refine Qi ?_ | refine Qg ?_ _)); exact BK101.out) hb); have n5_ := Aside0.mk (Qp (g := gb118) (o := .cells #[.slice Ao22 t113.length co22, .int .i64 t116, .int .i64 t117] 28 (0, 0)) (by (with_reducible repeat (first | refine Qh ?_ _ | refine Qi ?_ | refine Qg ?_ _)); exact BK118.out) hb); have n6_ := Aside0.mk (Qm (by repeat (first | (with_reducible first | exact HB.out | apply Qc | apply Qa | apply Qb | refine Qe ?_ GE101.out | refine Qe ?_ GE118.out) | exact HB.out)) hb); clear HO_4; clear HO_8; clear HO_119000; clear BK101; clear BK118; clear HB; have HO_4 := n0_; have HO_8 := n1_; have HO_119000 := n2_; have HO127 := n3_; have BK101 := n4_; have BK118 := n5_; have HB := n6_; clear n0_ n1_ n2_ n3_ n4_ n5_ n6_; (try clear hb); (try clear hb2); (try clear hk); (try clear hi); (try clear ho0); obtain ⟨Ao91, co91, eo91⟩ := Kd.R_slice HO127.out
       (first | subst eo91 | (injection eo91 with f1_ f2_ f3_; have f4_ := f1_.symm; have f5_ := f3_.symm; clear f1_ f2_ f3_; subst f4_; subst f5_))
       refine hK.out _ _ ⟨(Qd BK118.out 0).trans rfl, (Qd BK118.out 1).trans rfl, (Qd BK118.out 2).trans rfl, (Qd BK101.out 0).trans rfl, (Qd BK101.out 1).trans rfl, (Qd BK101.out 2).trans rfl⟩ (fun hHeld => ?_); clear hK K; refine norm_ (a' := ?_) ?_ ?_
       rotate_left
       ·show Act.put _ (some 53) _ = _
        simp only [Act.put, List.setIfInBounds_toArray, List.set_cons_zero, List.set_cons_succ, i64_w, i32_w]
        rfl
       refine one_ (i := 3) (N := some 54) #[true, true, true, true, false] rfl rfl (by kernel_rfl) (by decide) (fun K hK => ?_)
       first | (refine goes_ Try.func20 (by kernel_rfl) rfl #[.agg #[.slice Ao22 t113.length co22, .int .i64 t116, .int .i64 t117], .agg #[.slice Ao91 t125.length co91, .int .i64 t128, .int .i64 t129]] (by rfl) rfl rfl (by (try simp only [List.map_toArray, List.map_cons, List.map_nil]); first | done | rfl | (simp only [List.length_drop, List.length_take]; rfl)) ?_) | (refine call_ 20 #[.agg #[.slice Ao22 t113.length co22, .int .i64 t116, .int .i64 t117], .agg #[.slice Ao91 t125.length co91, .int .i64 t128, .int .i64 t129]] (by rfl) rfl (by unfold execOp; simp [resolve, Deferred.ofValue, invoke, Act.eval, enters_ Try.func20 (by kernel_rfl) rfl]) ?_)
       with_reducible refine (laws_eqTrade.calls kj10 _ _ t113 t116 t117 _ _ t125 t128 t129 false _ ?side1 ?side2 ?side3 ?side4 A37.out).mono ?_
       (case side1 => repeat (first | exact (Kd.Qn HO_119000.out).2.2 | (with_reducible refine Kd.C_alloc ?_ _) | (with_reducible refine Kd.C_drewN ?_ _) | (with_reducible refine Kd.C_drew ?_)))
       (case side2 => exact (Kd.Qn HO_119000.out).2.1)
       (case side3 => repeat (first | exact (Kd.Qn HO127.out).2.2 | (with_reducible refine Kd.C_alloc ?_ _) | (with_reducible refine Kd.C_drewN ?_ _) | (with_reducible refine Kd.C_drew ?_)))
       (case side4 => exact (Kd.Qn HO127.out).2.1)
       rintro e w92 ⟨rfl, hb⟩
       refine ⟨_, rfl, ?_⟩; have n0_ := Aside0.mk (Kd.R_below (by (with_reducible repeat (first | apply Kd.Qj | apply Kd.Qk | apply Kd.R_drew)); exact HO_4.out) hb); have n1_ := Aside0.mk (Kd.R_below (by (with_reducible repeat (first | apply Kd.Qj | apply Kd.Qk | apply Kd.R_drew)); exact HO_8.out) hb); have n2_ := Aside0.mk (Kd.R_below (by (with_reducible repeat (first | apply Kd.Qj | apply Kd.Qk | apply Kd.R_drew)); exact HO_119000.out) hb); have n3_ := Aside0.mk (Kd.R_below (by (with_reducible repeat (first | apply Kd.Qj | apply Kd.Qk | apply Kd.R_drew)); exact HO127.out) hb); have n4_ := Aside0.mk (Qp (g := gb101) (o := .cells #[.slice A0_0 l0_0.length c0_0, .int .i64 a0_1, .int .i64 a0_2] 24 (0, 0)) (by (with_reducible repeat (first | refine Qh ?_ _ | refine Qi ?_ | refine Qg ?_ _)); exact BK101.out) hb); have n5_ := Aside0.mk (Qp (g := gb118) (o := .cells #[.slice Ao22 t113.length co22, .int .i64 t116, .int .i64 t117] 28 (0, 0)) (by (with_reducible repeat (first | refine Qh ?_ _ | refine Qi ?_ | refine Qg ?_ _)); exact BK118.out) hb); have n6_ := Aside0.mk (Qm (by repeat (first | (with_reducible first | exact HB.out | apply Qc | apply Qa | apply Qb | refine Qe ?_ GE101.out | refine Qe ?_ GE118.out) | exact HB.out)) hb); clear HO_4; clear HO_8; clear HO_119000; clear HO127; clear BK101; clear BK118; clear HB; have HO_4 := n0_; have HO_8 := n1_; have HO_119000 := n2_; have HO127 := n3_; have BK101 := n4_; have BK118 := n5_; have HB := n6_; clear n0_ n1_ n2_ n3_ n4_ n5_ n6_; (try clear hb); (try clear hb2); (try clear hk); (try clear hi); refine hK.out _ _ ⟨(Qd BK118.out 0).trans rfl, (Qd BK118.out 1).trans rfl, (Qd BK118.out 2).trans rfl, (Qd BK101.out 0).trans rfl, (Qd BK101.out 1).trans rfl, (Qd BK101.out 2).trans rfl⟩ (fun hHeld => ?_); clear hK K; refine norm_ (a' := ?_) ?_ ?_
       rotate_left
       ·show Act.put _ (some 54) _ = _
        simp only [Act.put, List.setIfInBounds_toArray, List.set_cons_zero, List.set_cons_succ, i64_w, i32_w]
        rfl
       refine pure_ (i := 4) (N := some 55) (v := ?_) (a' := ?_) #[true, true, true, true, true] rfl rfl (by kernel_rfl) (fun _ _ _ h => h) (Or.inl ⟨by rfl, ?_⟩) ?_ ?_
       rotate_left
       ·intro w'
        go_simp
        with_reducible rfl
       rotate_left
       ·simp only [Act.put, List.setIfInBounds_toArray, List.set_cons_zero, List.set_cons_succ, i64_w, i32_w]
        rfl
       refine done_ (by kernel_rfl) ?_
       try go_wp2
       go_ret
       exact ⟨by first | rfl | (simp [errW_none, errW_some] <;> rfl) | (simp [*, errW_none, errW_some] <;> rfl), by repeat (first | (with_reducible first | exact HB.out | apply Qc | apply Qa | apply Qb | refine Qe ?_ GE101.out | refine Qe ?_ GE118.out) | exact HB.out)⟩

end Go.Proofs.Ytagkblgpaallbaa.Print
namespace Go.Proofs.Ytagkblgpaallbaa.Print
open Go.RowKit Go.Proofs.YtagkblgpaallbaaW.PrintWords Go.Proofs.YtagkblgpaallbaaW.PrintLast Go.Proofs.YtagkblgpaallbaaW.PrintMore
def laws_FnExactBestLots.Pure : Prop := ∀ (l0_0 : (List Int)) (a0_1 : Int) (a0_2 : Int), (l0_0.length ≤ maxLen ∧ ∀ x0 ∈ l0_0, (Lit.int .i64 x0).wf = true) → (Lit.int .i64 a0_1).wf = true → (Lit.int .i64 a0_2).wf = true → ∃ k, laws_FnExactBestLots.f k l0_0 a0_1 a0_2 = some true
end Go.Proofs.Ytagkblgpaallbaa.Print
namespace Go.Proofs.Ytagkblgpaallbaa.Pure
open Go.RowKit Go.Proofs.Ytagkblgpaallbaa.Print Go.Proofs.YtagkblgpaallbaaW.PrintWords Go.Proofs.YtagkblgpaallbaaW.PrintLast Go.Proofs.YtagkblgpaallbaaW.PrintMore

theorem Ev.of_eq {α : Type} {g : Nat → Option α} {r : α} (h : ∀ k, g k = some r) : Ev g r := ⟨0, fun k _ => h k⟩
theorem Ev.bind0 {α β : Type} {o : Option α} {f : Nat → α → Option β} {a : α} {r : β} (h : o = some a) (k : Ev (fun n => f n a) r) : Ev (fun n => o.bind (f n)) r := by
  subst h; exact k
theorem Ev.pos {α : Type} {c : Prop} [Decidable c] {g f : Nat → Option α} {r : α} (h : c) (k : Ev g r) : Ev (fun n => if c then g n else f n) r := by
  simpa only [if_pos h] using k
theorem Ev.neg {α : Type} {c : Prop} [Decidable c] {g f : Nat → Option α} {r : α} (h : ¬ c) (k : Ev f r) : Ev (fun n => if c then g n else f n) r := by
  simpa only [if_neg h] using k
theorem Ev.ite {α : Type} {c : Prop} [Decidable c] {g f : Nat → Option α} {r : α} (h : c → Ev g r) (k : ¬ c → Ev f r) : Ev (fun n => if c then g n else f n) r := by
  by_cases hc : c
  · exact Ev.pos hc (h hc)
  · exact Ev.neg hc (k hc)
theorem Ev.step0 {α : Type} {g f : Nat → Option α} {r : α} (k : Ev f r) (h : ∀ k, g (k + 1) = f k) : Ev g r := Ev.step h k
theorem Ev.to {α : Type} {g : Nat → Option α} {r s : α} (k : Ev g r) (h : r = s) : Ev g s := h ▸ k
theorem ev_up {β : Type} (n : Nat) (g : Nat → Nat → Option β) (r : β) (I : Nat → Prop) (h0 : I 0)
    (hend : I n → Ev (fun k => g k n) r) (hstep : ∀ i, i < n → I i → (I (i + 1) → Ev (fun k => g k (i + 1)) r) → Ev (fun k => g k i) r) : Ev (fun k => g k 0) r := by
  have h : ∀ d i, i + d = n → I i → Ev (fun k => g k i) r := by
    intro d
    induction d with
    | zero => intro i hi hI; obtain rfl : i = n := by omega
              exact hend hI
    | succ d ih => intro i hi hI; exact hstep i (by omega) hI fun hI' => ih (i + 1) (by omega) hI'
  exact h n 0 (by omega) h0
theorem w64 {x : Int} (h1 : -9223372036854775808 ≤ x) (h2 : x < 9223372036854775808) : wrap64 x = x := by unfold wrap64; omega
theorem rd_nat (l : List Int) (i : Nat) (h : i < l.length) : rd l (i : Int) = l[i] := by simp [rd, h]
theorem toNat_nat (i : Nat) : ((i : Int)).toNat = i := Int.toNat_natCast i
theorem lt_len {α : Type} {l : List α} {i : Nat} (h : i < l.length) : (i : Int) < (l.length : Int) := by omega
def allIn (l : List Int) (lo hi : Int) : Bool := l.all fun x => decide (lo ≤ x) && decide (x ≤ hi)
theorem allIn_iff (l : List Int) (lo hi : Int) : allIn l lo hi = true ↔ ∀ x ∈ l, lo ≤ x ∧ x ≤ hi := by
  simp [allIn, List.all_eq_true]
theorem all_take_false {α : Type} (l : List α) (p : α → Bool) (i : Nat) (h : i < l.length) (hp : p l[i] = false) : l.all p = false := by
  rw [List.all_eq_false]; exact ⟨l[i], List.getElem_mem h, by simp [hp]⟩
theorem all_take_succ {α : Type} (l : List α) (p : α → Bool) (i : Nat) (h : i < l.length) (ht : (l.take i).all p = true) (hp : p l[i] = true) : (l.take (i + 1)).all p = true := by
  rw [List.take_succ_eq_append_getElem h, List.all_append, ht]; simp [hp]
theorem sum_take_succ (l : List Int) (i : Nat) (h : i < l.length) : (l.take (i + 1)).sum = (l.take i).sum + l[i] := by
  rw [List.take_succ_eq_append_getElem h, List.sum_append]; simp
theorem sum_bounds (l : List Int) (lo hi : Int) (h : ∀ x ∈ l, lo ≤ x ∧ x ≤ hi) : lo * l.length ≤ l.sum ∧ l.sum ≤ hi * l.length := by
  induction l with
  | nil => simp
  | cons a l ih =>
    have h1 := h a (by simp)
    have h2 := ih fun x hx => h x (by simp [hx])
    simp only [List.sum_cons, List.length_cons]
    have e1 : lo * ((l.length + 1 : Nat) : Int) = lo * l.length + lo := by push_cast; rw [Int.mul_add]; simp
    have e2 : hi * ((l.length + 1 : Nat) : Int) = hi * l.length + hi := by push_cast; rw [Int.mul_add]; simp
    rw [e1, e2]; omega
theorem Ev.succ {α : Type} {g : Nat → Option α} {r : α} (h : Ev (fun k => g (k + 1)) r) : Ev g r := Ev.step (fun _ => rfl) h
end Go.Proofs.Ytagkblgpaallbaa.Pure
namespace Go.Proofs.Ytagkblgpaallbaa.Pure
open Go.RowKit Go.Proofs.Ytagkblgpaallbaa.Print Go.Proofs.YtagkblgpaallbaaW.PrintWords Go.Proofs.YtagkblgpaallbaaW.PrintLast Go.Proofs.YtagkblgpaallbaaW.PrintMore

theorem spec_l1In_eq (n lo hi : Int) : spec_l1In.f n lo hi = some (decide (lo ≤ n) && decide (n ≤ hi)) := by
  unfold spec_l1In.f
  by_cases h : n ≥ lo
  · rw [if_pos h, decide_eq_true (show lo ≤ n from h)]; simp
  · rw [if_neg h, decide_eq_false (show ¬ lo ≤ n from h)]; simp

theorem impl_within_eq (n lo hi : Int) : impl_within.f n lo hi = some (decide (lo ≤ n) && decide (n ≤ hi)) := by
  unfold impl_within.f
  by_cases h : n ≥ lo
  · rw [if_pos h, decide_eq_true (show lo ≤ n from h)]; simp
  · rw [if_neg h, decide_eq_false (show ¬ lo ≤ n from h)]; simp

theorem spec_l1All_ev (l : List Int) (lo hi : Int) (hl : l.length < 4611686018427387904) : Ev (fun k => spec_l1All.f k l lo hi) (allIn l lo hi) := by
  unfold spec_l1All.f
  refine ev_up l.length (fun k i => spec_l1All.l0 k lo hi l (l.length : Int) (i : Int)) _ (fun i => allIn (l.take i) lo hi = true) (by simp [allIn]) ?_ ?_
  · intro hI
    refine Ev.step0 (Ev.of_eq fun _ => rfl) fun k => ?_
    simp only [spec_l1All.l0]; rw [if_neg (by omega)]
    rw [List.take_length] at hI; rw [hI]
  · intro i hi' hI hn
    cases hb : (decide (lo ≤ l[i]) && decide (l[i] ≤ hi)) with
    | true =>
      refine Ev.step0 (hn (all_take_succ l _ i hi' hI hb)) fun k => ?_
      simp only [spec_l1All.l0]; rw [if_pos (lt_len hi'), if_pos (by omega), if_pos (lt_len hi'), rd_nat l i hi', spec_l1In_eq, hb]
      simp only [Option.bind_some, if_true]; rw [w64 (by omega) (by omega)]; rfl
    | false =>
      refine Ev.step0 (Ev.of_eq fun _ => rfl) fun k => ?_
      simp only [spec_l1All.l0]; rw [if_pos (lt_len hi'), if_pos (by omega), if_pos (lt_len hi'), rd_nat l i hi', spec_l1In_eq, hb]
      simp only [Option.bind_some]; rw [if_neg (by decide)]
      rw [show allIn l lo hi = false from all_take_false l _ i hi' hb]

theorem impl_allWithin_ev (l : List Int) (lo hi : Int) (hl : l.length < 4611686018427387904) : Ev (fun k => impl_allWithin.f k l lo hi) (allIn l lo hi) := by
  unfold impl_allWithin.f sl0_ContainsFunc.f sl1_IndexFunc.f
  have key : ∃ j : Int, decide (j ≥ 0) = !(allIn l lo hi) ∧ Ev (fun k => sl1_IndexFunc.l0 k l (l.length : Int) 0 lo hi) j := by
    have hc : ∀ x : Int, impl_allWithin_1.f x lo hi = some (!(decide (lo ≤ x) && decide (x ≤ hi))) := fun x => by
      unfold impl_allWithin_1.f; rw [impl_within_eq]; rfl
    cases ha : allIn l lo hi with
    | true =>
      refine ⟨-1, by decide, ?_⟩
      refine ev_up l.length (fun k i => sl1_IndexFunc.l0 k l (l.length : Int) (i : Int) lo hi) _ (fun _ => True) trivial ?_ ?_
      · intro _
        refine Ev.step0 (Ev.of_eq fun _ => rfl) fun k => ?_
        simp only [sl1_IndexFunc.l0]; rw [if_neg (by omega)]
      · intro i hi' _ hn
        have hb := (allIn_iff l lo hi).mp ha l[i] (List.getElem_mem hi')
        refine Ev.step0 (hn trivial) fun k => ?_
        simp only [sl1_IndexFunc.l0]; rw [if_pos (lt_len hi'), if_pos (by omega), if_pos (lt_len hi'), rd_nat l i hi', hc, decide_eq_true hb.1, decide_eq_true hb.2]
        simp only [Option.bind_some]; rw [if_neg (by decide), w64 (by omega) (by omega)]; rfl
    | false =>
      have : ∃ i : Nat, i < l.length ∧ Ev (fun k => sl1_IndexFunc.l0 k l (l.length : Int) 0 lo hi) (i : Int) := by
        obtain ⟨i, hi', hp, hlt⟩ : ∃ i : Nat, ∃ h : i < l.length, (decide (lo ≤ l[i]) && decide (l[i] ≤ hi)) = false ∧ ∀ j, ∀ hj : j < i, (decide (lo ≤ l[j]) && decide (l[j] ≤ hi)) = true := by
          have h1 : ∃ i : Nat, ∃ h : i < l.length, (decide (lo ≤ l[i]) && decide (l[i] ≤ hi)) = false := by
            unfold allIn at ha
            rw [List.all_eq_false] at ha
            obtain ⟨x, hx, hp⟩ := ha
            obtain ⟨i, hi', rfl⟩ := List.getElem_of_mem hx
            exact ⟨i, hi', by simpa using hp⟩
          obtain ⟨m, hm, hmin⟩ := exists_least h1
          obtain ⟨hm1, hm2⟩ := hm
          refine ⟨m, hm1, hm2, fun j hj => ?_⟩
          cases hq : (decide (lo ≤ l[j]) && decide (l[j] ≤ hi)) with
          | true => rfl
          | false => have := hmin j ⟨by omega, hq⟩; omega
        refine ⟨i, hi', ?_⟩
        refine ev_up i (fun k i => sl1_IndexFunc.l0 k l (l.length : Int) (i : Int) lo hi) _ (fun _ => True) trivial ?_ ?_
        · intro _
          refine Ev.step0 (Ev.of_eq fun _ => rfl) fun k => ?_
          simp only [sl1_IndexFunc.l0]; rw [if_pos (lt_len hi'), if_pos (by omega), if_pos (lt_len hi'), rd_nat l i hi', hc, hp]
          simp
        · intro j hj _ hn
          have hj' : j < l.length := by omega
          refine Ev.step0 (hn trivial) fun k => ?_
          simp only [sl1_IndexFunc.l0]; rw [if_pos (lt_len hj'), if_pos (by omega), if_pos (lt_len hj'), rd_nat l j hj', hc, hlt j hj]
          simp only [Option.bind_some]; rw [if_neg (by decide), w64 (by omega) (by omega)]; rfl
      obtain ⟨i, _, hi2⟩ := this
      exact ⟨i, by simp, hi2⟩
  obtain ⟨j, hj, hev⟩ := key
  refine Ev.to (Ev.bind (Ev.bind hev (Ev.now _)) (Ev.now _)) ?_
  rw [hj]; simp

theorem impl_sum_ev (l : List Int) (lo hi : Int) (h : ∀ x ∈ l, lo ≤ x ∧ x ≤ hi) (hlo : -1048576 ≤ lo) (hhi : hi ≤ 1073741824) (hl : l.length ≤ 1048576) : Ev (fun k => impl_sum.f k l) l.sum := by
  unfold impl_sum.f
  refine ev_up l.length (fun k i => impl_sum.l0 k (l.take i).sum l (l.length : Int) (i : Int)) _ (fun _ => True) trivial ?_ ?_
  · intro _
    refine Ev.step0 (Ev.of_eq fun _ => rfl) fun k => ?_
    simp only [impl_sum.l0]; rw [if_neg (by omega), List.take_length]
  · intro i hi' _ hn
    have hs := sum_take_succ l i hi'
    have hb := sum_bounds (l.take (i + 1)) (-1048576) 1073741824 fun x hx => by have := h x (List.mem_of_mem_take hx); omega
    have hlen : (l.take (i + 1)).length ≤ 1048576 := by rw [List.length_take]; omega
    refine Ev.step0 (hn trivial) fun k => ?_
    simp only [impl_sum.l0]; rw [if_pos (lt_len hi'), if_pos (by omega), if_pos (lt_len hi'), rd_nat l i hi', ← hs, w64 (by omega) (by omega), w64 (by omega) (by omega)]; rfl

theorem take_drop_set (l : List Int) (i : Nat) (h : i < l.length) : (l.take i ++ List.replicate (l.length - i) 0).set i l[i] = l.take (i + 1) ++ List.replicate (l.length - (i + 1)) 0 := by
  rw [List.set_append_right _ _ (by simp; omega)]
  rw [List.take_succ_eq_append_getElem h, List.append_assoc]
  congr 1
  rw [List.length_take, show i - min i l.length = 0 by omega, show l.length - i = (l.length - (i + 1)) + 1 by omega, List.replicate_succ]
  rfl
theorem laws_toIntS_ev (l : List Int) (hl : l.length ≤ 1048576) : Ev (fun k => laws_toIntS.f k l) l := by
  unfold laws_toIntS.f
  refine Ev.pos (by omega) (Ev.pos (by rw [toNat_nat]; omega) ?_)
  rw [toNat_nat]
  refine ev_up l.length (fun k i => laws_toIntS.l0 k l (l.take i ++ List.replicate (l.length - i) 0) (i : Int)) _ (fun _ => True) trivial ?_ ?_
  · intro _
    refine Ev.step0 (Ev.of_eq fun _ => rfl) fun k => ?_
    simp only [laws_toIntS.l0]; rw [if_neg (by omega), List.take_length]; simp
  · intro i hi' _ hn
    refine Ev.step0 (hn trivial) fun k => ?_
    have hlen : (l.take i ++ List.replicate (l.length - i) 0).length = l.length := by simp; omega
    simp only [laws_toIntS.l0]; rw [if_pos (lt_len hi'), if_pos (by omega), if_pos (by rw [hlen]; exact lt_len hi'), rd_nat l i hi', toNat_nat, take_drop_set l i hi', w64 (by omega) (by omega)]; rfl

theorem laws_eqIntS_ev (l : List Int) (hl : l.length ≤ 1048576) : Ev (fun k => laws_eqIntS.f k l l) true := by
  unfold laws_eqIntS.f
  refine Ev.pos rfl ?_
  refine ev_up l.length (fun k i => laws_eqIntS.l0 k l l (i : Int)) _ (fun _ => True) trivial ?_ ?_
  · intro _
    refine Ev.step0 (Ev.of_eq fun _ => rfl) fun k => ?_
    simp only [laws_eqIntS.l0]; rw [if_neg (by omega)]
  · intro i hi' _ hn
    refine Ev.step0 (hn trivial) fun k => ?_
    simp only [laws_eqIntS.l0]; rw [if_pos (lt_len hi'), if_pos (by omega), if_pos (lt_len hi'), if_true, w64 (by omega) (by omega)]; rfl

end Go.Proofs.Ytagkblgpaallbaa.Pure
namespace Go.Proofs.Ytagkblgpaallbaa.Pure
open Go.RowKit Go.Proofs.Ytagkblgpaallbaa.Print Go.Proofs.YtagkblgpaallbaaW.PrintWords Go.Proofs.YtagkblgpaallbaaW.PrintLast Go.Proofs.YtagkblgpaallbaaW.PrintMore

def lowNum (a b : Int) : Int := if b < 0 then Int.tdiv (-a) (Int.gcd a b) else Int.tdiv a (Int.gcd a b)
def lowDen (a b : Int) : Int := if b < 0 then Int.tdiv (-b) (Int.gcd a b) else Int.tdiv b (Int.gcd a b)
def goodFrac (a b : Int) : Bool := decide (-1000000000 ≤ a) && decide (a ≤ 1000000000) && (decide (1 ≤ b) && decide (b ≤ 1000000000)) && decide (Int.gcd a b = 1)
end Go.Proofs.Ytagkblgpaallbaa.Pure
namespace Go.Proofs.Ytagkblgpaallbaa.Pure
open Go.RowKit Go.Proofs.Ytagkblgpaallbaa.Print Go.Proofs.YtagkblgpaallbaaW.PrintWords Go.Proofs.YtagkblgpaallbaaW.PrintLast Go.Proofs.YtagkblgpaallbaaW.PrintMore

def flowOk (flow : List Int) : Bool := decide (1 ≤ (flow.length : Int)) && decide ((flow.length : Int) ≤ 8) && allIn flow 1 30
def countsOk (flow counts : List Int) : Bool := flowOk flow && (decide ((counts.length : Int) = (flow.length : Int)) && (allIn counts 1 40 && decide (counts.sum ≤ 40)))
def gn (f c : Int) : Int := lowNum f (c * (c + 1))
def gd (f c : Int) : Int := lowDen f (c * (c + 1))
def bestUp (lt : Nat → Nat → Bool) : Nat → Nat
  | 0 => 0
  | i + 1 => if lt (bestUp lt i) i = true then i else bestUp lt i
def gainLt (flow counts : List Int) (b i : Nat) : Bool := decide (gn flow[b]! counts[b]! * gd flow[i]! counts[i]! < gn flow[i]! counts[i]! * gd flow[b]! counts[b]!)
def nextOf (flow counts : List Int) : Nat := bestUp (gainLt flow counts) flow.length
def nextFor (flow counts : List Int) : Int × Bool := if countsOk flow counts = true then ((nextOf flow counts : Int), true) else (0, false)
end Go.Proofs.Ytagkblgpaallbaa.Pure
namespace Go.Proofs.Ytagkblgpaallbaa.Pure
open Go.RowKit Go.Proofs.Ytagkblgpaallbaa.Print Go.Proofs.YtagkblgpaallbaaW.PrintWords Go.Proofs.YtagkblgpaallbaaW.PrintLast Go.Proofs.YtagkblgpaallbaaW.PrintMore

def bump (flow counts : List Int) : List Int := counts.set (nextOf flow counts) (counts[nextOf flow counts]! + 1)
def shareUp (flow : List Int) : Nat → List Int
  | 0 => List.replicate flow.length 1
  | i + 1 => bump flow (shareUp flow i)
def shareOf (flow : List Int) (places : Int) : List Int := shareUp flow (places - flow.length).toNat
def kindsOk (flow : List Int) (places : Int) : Bool := flowOk flow && (decide ((flow.length : Int) ≤ places) && decide (places ≤ 40))

def upFrom (k : Int) (n : Nat) : List Int := (List.range n).map fun (j : Nat) => k + (j : Int)
theorem upFrom_length (k : Int) (n : Nat) : (upFrom k n).length = n := by simp [upFrom]
theorem upFrom_get (k : Int) (n i : Nat) (h : i < n) : (upFrom k n)[i]'(by rw [upFrom_length]; exact h) = k + (i : Int) := by simp [upFrom]
theorem upFrom_succ (k : Int) (n : Nat) : upFrom k (n + 1) = upFrom k n ++ [k + (n : Int)] := by simp [upFrom, List.range_succ]
theorem laws_markIntS_ev (l : List Int) (k0 : Int) (h0 : 0 ≤ k0 ∧ k0 ≤ 1073741824) (hl : l.length ≤ 1048576) : Ev (fun k => laws_markIntS.f k l k0) (k0 + (l.length : Int), upFrom k0 l.length) := by
  unfold laws_markIntS.f
  have key := ev_up l.length (fun k i => laws_markIntS.l0 k (upFrom k0 i ++ l.drop i) (k0 + (i : Int)) (i : Int)) (k0 + (l.length : Int), upFrom k0 l.length) (fun _ => True) trivial ?_ ?_
  · simpa [upFrom] using key
  · intro _
    refine Ev.succ ?_
    simp only [laws_markIntS.l0]
    refine Ev.neg (by simp [upFrom_length]) ?_
    rw [List.drop_length, List.append_nil]; exact Ev.now _
  · intro i hi _ hn
    refine Ev.succ ?_
    simp only [laws_markIntS.l0]
    have hlen : (upFrom k0 i ++ l.drop i).length = l.length := by simp [upFrom_length]; omega
    refine Ev.pos (by rw [hlen]; exact lt_len hi) (Ev.pos (by omega) ?_)
    rw [toNat_nat, w64 (x := (i : Int) + 1) (by omega) (by omega), w64 (by omega) (by omega)]
    have hs : (upFrom k0 i ++ l.drop i).set i (k0 + (i : Int)) = upFrom k0 (i + 1) ++ l.drop (i + 1) := by
      rw [List.set_append_right _ _ (by rw [upFrom_length]; exact Nat.le_refl _), upFrom_length, Nat.sub_self, List.drop_eq_getElem_cons hi, List.set_cons_zero, upFrom_succ, List.append_assoc]; rfl
    rw [hs, Int.add_assoc]
    exact hn trivial

theorem laws_heldIntS_ev (n : Nat) (k0 : Int) (h0 : 0 ≤ k0 ∧ k0 ≤ 1073741824) (hl : n ≤ 1048576) : Ev (fun k => laws_heldIntS.f k (upFrom k0 n) k0) (k0 + (n : Int)) := by
  unfold laws_heldIntS.f
  have key := ev_up n (fun k i => laws_heldIntS.l0 k (upFrom k0 n) (k0 + (i : Int)) (i : Int)) (k0 + (n : Int)) (fun _ => True) trivial ?_ ?_
  · simpa using key
  · intro _
    refine Ev.succ ?_
    simp only [laws_heldIntS.l0]
    exact Ev.neg (by simp [upFrom_length]) (Ev.now _)
  · intro i hi _ hn
    refine Ev.succ ?_
    simp only [laws_heldIntS.l0]
    have hi' : i < (upFrom k0 n).length := by rw [upFrom_length]; exact hi
    refine Ev.pos (lt_len hi') (Ev.pos (by omega) (Ev.pos (by rw [rd_nat _ _ hi', upFrom_get _ _ _ hi]) ?_))
    rw [w64 (x := (i : Int) + 1) (by omega) (by omega), w64 (by omega) (by omega), Int.add_assoc]
    exact hn trivial

end Go.Proofs.Ytagkblgpaallbaa.Pure
namespace Go.Proofs.Ytagkblgpaallbaa.Pure
open Go.RowKit Go.Proofs.Ytagkblgpaallbaa.Print Go.Proofs.YtagkblgpaallbaaW.PrintWords Go.Proofs.YtagkblgpaallbaaW.PrintLast Go.Proofs.YtagkblgpaallbaaW.PrintMore

theorem laws_szTrade_eq (l : List Int) (a b : Int) (h : l.length ≤ maxLen) : laws_szTrade.f l a b 1048576 = some (if (l.length : Int) > 1048576 then -1 else 1048576 - (l.length : Int)) := by
  have hm : maxLen = 9223372036854775807 := rfl
  unfold laws_szTrade.f laws_szIntS.f
  rw [w64 (by omega) (by omega)]
  by_cases hc : (l.length : Int) > 1048576
  · rw [if_pos (by omega), if_pos hc]; rfl
  · rw [if_neg (by omega), if_neg hc, Option.bind_some, if_neg (by omega)]
theorem laws_toTrade_ev (l : List Int) (a b : Int) (h : l.length ≤ 1048576) : Ev (fun k => laws_toTrade.f k l a b) (l, a, b) := by
  unfold laws_toTrade.f; exact Ev.bind (laws_toIntS_ev l h) (Ev.now _)
theorem laws_eqTrade_ev (l : List Int) (a b : Int) (h : l.length ≤ 1048576) : Ev (fun k => laws_eqTrade.f k l a b l a b) true := by
  unfold laws_eqTrade.f; exact Ev.bind (laws_eqIntS_ev l h) (Ev.pos rfl (Ev.pos rfl (Ev.pos rfl (Ev.now _))))

def tradeOk (need : List Int) (start keep : Int) : Bool := (decide (1 ≤ (need.length : Int)) && decide ((need.length : Int) ≤ 10)) && (allIn need 0 20 && ((decide (0 ≤ start) && decide (start ≤ 100)) && (decide (0 ≤ keep) && decide (keep ≤ 10))))
def lotsOk (need : List Int) (start keep : Int) (lots : List Int) : Bool := tradeOk need start keep && (decide ((lots.length : Int) = (need.length : Int)) && allIn lots 0 200)
theorem tradeOk_iff (need : List Int) (start keep : Int) : tradeOk need start keep = true ↔ (1 ≤ need.length ∧ need.length ≤ 10) ∧ (∀ x ∈ need, 0 ≤ x ∧ x ≤ 20) ∧ (0 ≤ start ∧ start ≤ 100) ∧ (0 ≤ keep ∧ keep ≤ 10) := by
  simp only [tradeOk, Bool.and_eq_true, decide_eq_true_eq, allIn_iff]
  constructor
  · rintro ⟨⟨h1, h2⟩, h3, h4, h5⟩; exact ⟨⟨by omega, by omega⟩, h3, h4, h5⟩
  · rintro ⟨⟨h1, h2⟩, h3, h4, h5⟩; exact ⟨⟨by omega, by omega⟩, h3, h4, h5⟩
def costGo (start keep : Int) : List Int → List Int → Int → Int → Option Int
  | l :: ls, n :: ns, sum, left => if left + (l - n) < 0 then none else costGo start keep ls ns ((if l > 0 then sum + start else sum) + keep * (left + (l - n))) (left + (l - n))
  | _, _, sum, _ => some sum
theorem spec_GoodTrade_ev (need : List Int) (start keep : Int) (h : need.length ≤ 1048576) : Ev (fun k => spec_GoodTrade.f k need start keep) (tradeOk need start keep) := by
  unfold spec_GoodTrade.f tradeOk
  refine Ev.bind0 (spec_l1In_eq _ _ _) (Ev.ite (fun h1 => ?_) (fun h1 => by rw [Bool.eq_false_iff.mpr h1]; exact Ev.now _))
  rw [h1]
  refine Ev.bind (spec_l1All_ev need 0 20 (by omega)) (Ev.ite (fun h2 => ?_) (fun h2 => by rw [Bool.eq_false_iff.mpr h2]; exact Ev.now _))
  rw [h2]
  refine Ev.bind0 (spec_l1In_eq _ _ _) (Ev.ite (fun h3 => ?_) (fun h3 => by rw [Bool.eq_false_iff.mpr h3]; exact Ev.now _))
  rw [h3]
  exact Ev.bind0 (spec_l1In_eq _ _ _) (by simpa using Ev.now _)

theorem impl_GoodTrade_ev (need : List Int) (start keep : Int) (h : need.length ≤ 1048576) : Ev (fun k => impl_GoodTrade.f k need start keep) (tradeOk need start keep) := by
  unfold impl_GoodTrade.f tradeOk
  refine Ev.bind0 (impl_within_eq _ _ _) (Ev.ite (fun h1 => ?_) (fun h1 => by rw [Bool.eq_false_iff.mpr h1]; exact Ev.now _))
  rw [h1]
  refine Ev.bind (impl_allWithin_ev need 0 20 (by omega)) (Ev.ite (fun h2 => ?_) (fun h2 => by rw [Bool.eq_false_iff.mpr h2]; exact Ev.now _))
  rw [h2]
  refine Ev.bind0 (impl_within_eq _ _ _) (Ev.ite (fun h3 => ?_) (fun h3 => by rw [Bool.eq_false_iff.mpr h3]; exact Ev.now _))
  rw [h3]
  exact Ev.bind0 (impl_within_eq _ _ _) (by simpa using Ev.now _)

theorem spec_l14Cost_ev (need lots : List Int) (start keep : Int) (hn : need.length ≤ 10) (hl : lots.length = need.length) (h1 : ∀ x ∈ need, 0 ≤ x ∧ x ≤ 20) (h2 : ∀ x ∈ lots, 0 ≤ x ∧ x ≤ 200) (hs : 0 ≤ start ∧ start ≤ 100) (hk : 0 ≤ keep ∧ keep ≤ 10) :
    Ev (fun k => spec_l14Cost.f k need start keep lots) ((costGo start keep lots need 0 0).getD (-1)) := by
  unfold spec_l14Cost.f
  suffices hh : ∀ d i sum left, i + d = lots.length → 0 ≤ sum ∧ sum ≤ 30000 * (i : Int) → 0 ≤ left ∧ left ≤ 200 * (i : Int) → Ev (fun k => spec_l14Cost.l0 k sum left lots (lots.length : Int) (i : Int) need start keep) ((costGo start keep (lots.drop i) (need.drop i) sum left).getD (-1)) by
    have := hh lots.length 0 0 0 (by omega) (by omega) (by omega)
    simpa using this
  intro d
  induction d with
  | zero =>
    intro i sum left hi _ _
    refine Ev.succ ?_
    simp only [spec_l14Cost.l0]
    rw [List.drop_of_length_le (by omega : lots.length ≤ i)]
    refine Ev.neg (by omega) (Ev.to (Ev.now _) ?_)
    simp [costGo]
  | succ d ih =>
    intro i sum left hi hsum hleft
    have hlt : i < lots.length := by omega
    have hltn : i < need.length := by omega
    have b1 := h2 _ (List.getElem_mem hlt)
    have b2 := h1 _ (List.getElem_mem hltn)
    refine Ev.succ ?_
    simp only [spec_l14Cost.l0]
    rw [List.drop_eq_getElem_cons hlt, List.drop_eq_getElem_cons hltn, rd_nat _ _ hlt, rd_nat _ _ hltn, w64 (x := lots[i] - need[i]) (by omega) (by omega), w64 (x := left + (lots[i] - need[i])) (by omega) (by omega)]
    simp only [costGo]
    by_cases hneg : left + (lots[i] - need[i]) < 0
    · rw [if_pos hneg]
      refine Ev.pos (by omega) (Ev.pos (by omega) (Ev.pos (by omega) (Ev.ite (fun _ => ?_) (fun _ => ?_))))
      · exact Ev.pos (by omega) (Ev.pos hneg (Ev.now _))
      · exact Ev.pos (by omega) (Ev.pos hneg (Ev.now _))
    · rw [if_neg hneg]
      have m1 : 0 ≤ keep * (left + (lots[i] - need[i])) := Int.mul_nonneg hk.1 (by omega)
      have m2 : keep * (left + (lots[i] - need[i])) ≤ 10 * 2000 := Int.mul_le_mul hk.2 (by omega) (by omega) (by omega)
      refine Ev.pos (by omega) (Ev.pos (by omega) (Ev.pos (by omega) (Ev.ite (fun hc => ?_) (fun hc => ?_))))
      · refine Ev.pos (by omega) (Ev.neg hneg ?_)
        rw [w64 (x := sum + start) (by omega) (by omega), w64 (x := keep * _) (by omega) (by omega), w64 (by omega) (by omega), w64 (x := (i : Int) + 1) (by omega) (by omega), if_pos hc]
        exact ih (i + 1) _ _ (by omega) (by omega) (by omega)
      · refine Ev.pos (by omega) (Ev.neg hneg ?_)
        rw [w64 (x := keep * _) (by omega) (by omega), w64 (by omega) (by omega), w64 (x := (i : Int) + 1) (by omega) (by omega), if_neg hc]
        exact ih (i + 1) _ _ (by omega) (by omega) (by omega)

def costSay : Option Int → Int × Bool
  | none => (0, false)
  | some s => (s, true)
theorem impl_Trade_cost_ev (need lots : List Int) (start keep : Int) (hn : need.length ≤ 10) (hl : lots.length = need.length) (h1 : ∀ x ∈ need, 0 ≤ x ∧ x ≤ 20) (h2 : ∀ x ∈ lots, 0 ≤ x ∧ x ≤ 200) (hs : 0 ≤ start ∧ start ≤ 100) (hk : 0 ≤ keep ∧ keep ≤ 10) :
    Ev (fun k => impl_Trade_cost.f k need start keep lots) (costSay (costGo start keep lots need 0 0)) := by
  unfold impl_Trade_cost.f
  suffices hh : ∀ d i sum left, i + d = lots.length → 0 ≤ sum ∧ sum ≤ 30000 * (i : Int) → 0 ≤ left ∧ left ≤ 200 * (i : Int) → Ev (fun k => impl_Trade_cost.l0 k sum left lots (lots.length : Int) (i : Int) need start keep) (costSay (costGo start keep (lots.drop i) (need.drop i) sum left)) by
    have := hh lots.length 0 0 0 (by omega) (by omega) (by omega)
    simpa using this
  intro d
  induction d with
  | zero =>
    intro i sum left hi _ _
    refine Ev.succ ?_
    simp only [impl_Trade_cost.l0]
    rw [List.drop_of_length_le (by omega : lots.length ≤ i)]
    refine Ev.neg (by omega) (Ev.to (Ev.now _) ?_)
    simp [costGo, costSay]
  | succ d ih =>
    intro i sum left hi hsum hleft
    have hlt : i < lots.length := by omega
    have hltn : i < need.length := by omega
    have b1 := h2 _ (List.getElem_mem hlt)
    have b2 := h1 _ (List.getElem_mem hltn)
    refine Ev.succ ?_
    simp only [impl_Trade_cost.l0]
    rw [List.drop_eq_getElem_cons hlt, List.drop_eq_getElem_cons hltn, rd_nat _ _ hlt, rd_nat _ _ hltn, w64 (x := lots[i] - need[i]) (by omega) (by omega), w64 (x := left + (lots[i] - need[i])) (by omega) (by omega)]
    simp only [costGo]
    by_cases hneg : left + (lots[i] - need[i]) < 0
    · rw [if_pos hneg]
      refine Ev.pos (by omega) (Ev.pos (by omega) (Ev.pos (by omega) (Ev.ite (fun _ => ?_) (fun _ => ?_))))
      · exact Ev.pos (by omega) (Ev.pos hneg (Ev.now _))
      · exact Ev.pos (by omega) (Ev.pos hneg (Ev.now _))
    · rw [if_neg hneg]
      have m1 : 0 ≤ keep * (left + (lots[i] - need[i])) := Int.mul_nonneg hk.1 (by omega)
      have m2 : keep * (left + (lots[i] - need[i])) ≤ 10 * 2000 := Int.mul_le_mul hk.2 (by omega) (by omega) (by omega)
      refine Ev.pos (by omega) (Ev.pos (by omega) (Ev.pos (by omega) (Ev.ite (fun hc => ?_) (fun hc => ?_))))
      · refine Ev.pos (by omega) (Ev.neg hneg ?_)
        rw [w64 (x := sum + start) (by omega) (by omega), w64 (x := keep * _) (by omega) (by omega), w64 (by omega) (by omega), w64 (x := (i : Int) + 1) (by omega) (by omega), if_pos hc]
        exact ih (i + 1) _ _ (by omega) (by omega) (by omega)
      · refine Ev.pos (by omega) (Ev.neg hneg ?_)
        rw [w64 (x := keep * _) (by omega) (by omega), w64 (by omega) (by omega), w64 (x := (i : Int) + 1) (by omega) (by omega), if_neg hc]
        exact ih (i + 1) _ _ (by omega) (by omega) (by omega)

end Go.Proofs.Ytagkblgpaallbaa.Pure
namespace Go.Proofs.Ytagkblgpaallbaa.Pure
open Go.RowKit Go.Proofs.Ytagkblgpaallbaa.Print Go.Proofs.YtagkblgpaallbaaW.PrintWords Go.Proofs.YtagkblgpaallbaaW.PrintLast Go.Proofs.YtagkblgpaallbaaW.PrintMore

def later : List Int → Int
  | [] => 0
  | _ :: ns => ns.sum + later ns
def oneOf (start keep : Int) (seg : List Int) : Int := keep * later seg + (if seg.sum > 0 then start else 0)
def weigh (keep : Int) : Int → List Int → Int
  | _, [] => 0
  | j, n :: ns => keep * n * j + weigh keep (j + 1) ns
theorem weigh_eq (keep : Int) (ns : List Int) : ∀ j : Int, weigh keep j ns = keep * (j * ns.sum + later ns) := by
  induction ns with
  | nil => intro j; simp [weigh, later]
  | cons n ns ih =>
    intro j
    rw [weigh, ih, later, List.sum_cons, Int.mul_assoc, Int.mul_comm n j]
    simp only [Int.mul_add, Int.add_mul, Int.one_mul]
    omega
theorem sum_nonneg (l : List Int) (h : ∀ x ∈ l, 0 ≤ x ∧ x ≤ 20) : 0 ≤ l.sum ∧ l.sum ≤ 20 * l.length := by
  have := sum_bounds l 0 20 h; omega
theorem later_bounds (l : List Int) (h : ∀ x ∈ l, 0 ≤ x ∧ x ≤ 20) (hl : l.length ≤ 10) : 0 ≤ later l ∧ later l ≤ 200 * l.length := by
  induction l with
  | nil => simp [later]
  | cons n ns ih =>
    have h1 := ih (fun x hx => h x (by simp [hx])) (by simp only [List.length_cons] at hl; omega)
    have h2 := sum_nonneg ns (fun x hx => h x (by simp [hx]))
    simp only [List.length_cons] at hl ⊢
    rw [later]; omega
theorem oneOf_bounds (start keep : Int) (l : List Int) (h : ∀ x ∈ l, 0 ≤ x ∧ x ≤ 20) (hl : l.length ≤ 10) (hs : 0 ≤ start ∧ start ≤ 100) (hk : 0 ≤ keep ∧ keep ≤ 10) : 0 ≤ oneOf start keep l ∧ oneOf start keep l ≤ 30000 := by
  have h1 := later_bounds l h hl
  have m1 := Int.mul_nonneg hk.1 h1.1
  have m2 : keep * later l ≤ 10 * 2000 := Int.mul_le_mul hk.2 (by omega) h1.1 (by omega)
  unfold oneOf
  split <;> omega
theorem costGo_zeros (start keep : Int) (ns : List Int) (h : ∀ x ∈ ns, 0 ≤ x ∧ x ≤ 20) : ∀ sum : Int, costGo start keep (List.replicate ns.length 0) ns sum ns.sum = some (sum + keep * later ns) := by
  induction ns with
  | nil => intro sum; simp [costGo, later]
  | cons n ns ih =>
    intro sum
    have h2 := sum_nonneg ns (fun x hx => h x (by simp [hx]))
    rw [List.length_cons, List.replicate_succ, costGo, List.sum_cons, if_neg (by omega), if_neg (by omega), show n + ns.sum + (0 - n) = ns.sum by omega, ih (fun x hx => h x (by simp [hx])), later, Int.mul_add, Int.add_assoc]
theorem costGo_one (start keep : Int) (n : Int) (ns : List Int) (h : ∀ x ∈ n :: ns, 0 ≤ x ∧ x ≤ 20) : costGo start keep ((n :: ns).sum :: List.replicate ns.length 0) (n :: ns) 0 0 = some (oneOf start keep (n :: ns)) := by
  have h2 := sum_nonneg ns (fun x hx => h x (by simp [hx]))
  rw [costGo, List.sum_cons, show 0 + (n + ns.sum - n) = ns.sum by omega, if_neg (by omega), costGo_zeros start keep ns (fun x hx => h x (by simp [hx])), oneOf, later, Int.mul_add, List.sum_cons]
  split <;> (congr 1; omega)
def seg (need : List Int) (a b : Nat) : List Int := (need.take b).drop a
theorem seg_length (need : List Int) (a b : Nat) (hb : b ≤ need.length) : (seg need a b).length = b - a := by simp [seg]; omega
theorem seg_mem (need : List Int) (a b : Nat) {x : Int} (h : x ∈ seg need a b) : x ∈ need := List.mem_of_mem_take (List.mem_of_mem_drop h)

theorem spec_l14One_ev (need : List Int) (start keep : Int) (a b : Nat) (hab : a < b) (hb : b ≤ need.length) (hn : need.length ≤ 10) (h : ∀ x ∈ need, 0 ≤ x ∧ x ≤ 20) (hs : 0 ≤ start ∧ start ≤ 100) (hk : 0 ≤ keep ∧ keep ≤ 10) :
    Ev (fun k => spec_l14One.f k need start keep (a : Int) (b : Int)) (oneOf start keep (seg need a b)) := by
  unfold spec_l14One.f
  suffices hh : ∀ d i s t, i + d = b - a → 0 ≤ t ∧ t ≤ 20 * (i : Int) → 0 ≤ s ∧ s ≤ 2000 * (i : Int) → Ev (fun k => spec_l14One.l0 k (a : Int) (b : Int) s t ((a + i : Nat) : Int) need start keep) (s + weigh keep (i : Int) ((seg need a b).drop i) + (if t + ((seg need a b).drop i).sum > 0 then start else 0)) by
    have := hh (b - a) 0 0 0 (by omega) (by omega) (by omega)
    rw [List.drop_zero, weigh_eq] at this
    refine Ev.to (by simpa using this) ?_
    unfold oneOf; simp
  intro d
  induction d with
  | zero =>
    intro i s t hi ht hs'
    refine Ev.succ ?_
    simp only [spec_l14One.l0]
    have hl := seg_length need a b hb
    rw [List.drop_of_length_le (by omega : (seg need a b).length ≤ i), weigh]
    refine Ev.neg (by omega) (Ev.ite (fun hc => ?_) (fun hc => ?_))
    · rw [w64 (by omega) (by omega)]
      refine Ev.to (Ev.now _) ?_
      rw [if_pos (by simpa using hc)]; omega
    · refine Ev.to (Ev.now _) ?_
      rw [if_neg (by simpa using hc)]; omega
  | succ d ih =>
    intro i s t hi ht hs'
    have hl := seg_length need a b hb
    have hi' : i < (seg need a b).length := by omega
    have hai : a + i < need.length := by omega
    have he : (seg need a b)[i] = need[a + i] := by simp [seg]
    have b1 := h _ (List.getElem_mem hai)
    have m0 : 0 ≤ keep * need[a + i] := Int.mul_nonneg hk.1 b1.1
    have m1 : keep * need[a + i] ≤ 10 * 20 := Int.mul_le_mul hk.2 b1.2 b1.1 (by omega)
    have m2 : 0 ≤ keep * need[a + i] * (i : Int) := Int.mul_nonneg m0 (by omega)
    have m3 : keep * need[a + i] * (i : Int) ≤ 200 * 10 := Int.mul_le_mul m1 (by omega) (by omega) (by omega)
    refine Ev.succ ?_
    simp only [spec_l14One.l0]
    refine Ev.pos (by omega) (Ev.pos (by omega) (Ev.pos (by omega) ?_))
    rw [rd_nat _ _ hai, w64 (x := keep * need[a + i]) (by omega) (by omega), w64 (x := ((a + i : Nat) : Int) - (a : Int)) (by omega) (by omega), show ((a + i : Nat) : Int) - (a : Int) = (i : Int) by omega, w64 (x := keep * need[a + i] * (i : Int)) (by omega) (by omega), w64 (x := s + _) (by omega) (by omega), w64 (x := t + _) (by omega) (by omega), w64 (x := ((a + i : Nat) : Int) + 1) (by omega) (by omega)]
    have hn' := ih (i + 1) (s + keep * need[a + i] * (i : Int)) (t + need[a + i]) (by omega) (by omega) (by omega)
    rw [List.drop_eq_getElem_cons hi', he, weigh, List.sum_cons]
    rw [show ((a + (i + 1) : Nat) : Int) = ((a + i : Nat) : Int) + 1 by omega, show ((i + 1 : Nat) : Int) = (i : Int) + 1 by omega] at hn'
    refine Ev.to hn' ?_
    rw [show t + need[a + i] + ((seg need a b).drop (i + 1)).sum = t + (need[a + i] + ((seg need a b).drop (i + 1)).sum) by omega]
    omega

theorem impl_Trade_single_ev (need : List Int) (start keep : Int) (a b : Nat) (hab : a < b) (hb : b ≤ need.length) (hn : need.length ≤ 10) (h : ∀ x ∈ need, 0 ≤ x ∧ x ≤ 20) (hs : 0 ≤ start ∧ start ≤ 100) (hk : 0 ≤ keep ∧ keep ≤ 10) :
    Ev (fun k => impl_Trade_single.f k need start keep (a : Int) (b : Int)) (oneOf start keep (seg need a b)) := by
  have hl := seg_length need a b hb
  have hm : ∀ x ∈ seg need a b, 0 ≤ x ∧ x ≤ 20 := fun x hx => h x (seg_mem need a b hx)
  have hsum := sum_nonneg _ hm
  unfold impl_Trade_single.f
  rw [w64 (x := (b : Int) - (a : Int)) (by omega) (by omega), show (b : Int) - (a : Int) = ((b - a : Nat) : Int) by omega, toNat_nat, toNat_nat, toNat_nat]
  refine Ev.pos (by omega) (Ev.pos (by omega) (Ev.pos (by omega) (Ev.pos (by omega) (Ev.pos (by omega) (Ev.bind0 rfl (Ev.bind (impl_sum_ev (seg need a b) 0 20 hm (by omega) (by omega) (by omega)) (Ev.pos (by simp; omega) ?_)))))))
  have hset : (List.replicate (b - a) (0 : Int)).set ((0 : Int)).toNat (seg need a b).sum = (seg need a b).sum :: List.replicate (b - a - 1) 0 := by
    rw [show b - a = (b - a - 1) + 1 by omega, List.replicate_succ]; simp
  rw [hset]
  refine Ev.bind (impl_Trade_cost_ev (seg need a b) ((seg need a b).sum :: List.replicate (b - a - 1) 0) start keep (by omega) (by simp; omega) hm (fun x hx => by
    rcases List.mem_cons.mp hx with rfl | hx
    · omega
    · have := List.eq_of_mem_replicate hx; omega) hs hk) ?_
  refine Ev.to (Ev.now _) ?_
  have hc : ∀ L : List Int, L.length = b - a → (∀ x ∈ L, 0 ≤ x ∧ x ≤ 20) → costGo start keep (L.sum :: List.replicate (b - a - 1) 0) L 0 0 = some (oneOf start keep L) := by
    intro L hL hLm
    cases L with
    | nil => simp at hL; omega
    | cons n ns =>
      have := costGo_one start keep n ns hLm
      simp only [List.length_cons] at hL
      rw [show b - a - 1 = ns.length by omega]; exact this
  rw [hc _ hl hm]; rfl

def minTo (one : Nat → Int) (out : List Int) : Nat → Int
  | 0 => one 0
  | d + 1 => if rd out ((d + 1 : Nat) : Int) + one (d + 1) < minTo one out d then rd out ((d + 1 : Nat) : Int) + one (d + 1) else minTo one out d
def tabUp (start keep : Int) (need : List Int) : Nat → List Int
  | 0 => [0]
  | t + 1 => tabUp start keep need t ++ [minTo (fun d => oneOf start keep (seg need d (t + 1))) (tabUp start keep need t) t]
theorem tabUp_length (start keep : Int) (need : List Int) (t : Nat) : (tabUp start keep need t).length = t + 1 := by
  induction t with
  | zero => rfl
  | succ t ih => rw [tabUp, List.length_append, ih]; rfl
theorem tabUp_zero (start keep : Int) (need : List Int) (t : Nat) : rd (tabUp start keep need t) 0 = 0 := by
  have h0 : 0 < (tabUp start keep need t).length := by rw [tabUp_length]; omega
  have e := rd_nat (tabUp start keep need t) 0 h0
  rw [Int.natCast_zero] at e
  rw [e]
  clear e
  revert h0
  induction t with
  | zero => intro h0; rfl
  | succ t ih =>
    intro h0
    have h1 : 0 < (tabUp start keep need t).length := by rw [tabUp_length]; omega
    simp only [tabUp]
    rw [List.getElem_append_left h1]; exact ih h1
theorem minTo_bounds (one : Nat → Int) (out : List Int) (B : Int) (n : Nat) (h1 : ∀ d, d ≤ n → 0 ≤ one d ∧ one d ≤ B) (h2 : ∀ x ∈ out, 0 ≤ x) (hl : n < out.length) : ∀ d, d ≤ n → 0 ≤ minTo one out d ∧ minTo one out d ≤ B := by
  intro d
  induction d with
  | zero => intro _; exact h1 0 (by omega)
  | succ d ih =>
    intro hd
    have hb := ih (by omega)
    have ho := h1 (d + 1) hd
    have hr : 0 ≤ rd out ((d + 1 : Nat) : Int) := by rw [rd_nat _ _ (by omega)]; exact h2 _ (List.getElem_mem _)
    rw [minTo]; split <;> omega
theorem tabUp_bounds (start keep : Int) (need : List Int) (hn : need.length ≤ 10) (h : ∀ x ∈ need, 0 ≤ x ∧ x ≤ 20) (hs : 0 ≤ start ∧ start ≤ 100) (hk : 0 ≤ keep ∧ keep ≤ 10) (t : Nat) (ht : t ≤ need.length) : ∀ x ∈ tabUp start keep need t, 0 ≤ x ∧ x ≤ 30000 := by
  induction t with
  | zero => intro x hx; simp only [tabUp, List.mem_singleton] at hx; omega
  | succ t ih =>
    intro x hx
    have hi := ih (by omega)
    rw [tabUp] at hx
    rcases List.mem_append.mp hx with hx | hx
    · exact hi x hx
    · obtain rfl := List.mem_singleton.mp hx
      exact minTo_bounds _ _ 30000 t (fun d hd => oneOf_bounds start keep _ (fun y hy => h y (seg_mem _ _ _ hy)) (by rw [seg_length _ _ _ ht]; omega) hs hk) (fun y hy => (hi y hy).1) (by rw [tabUp_length]; omega) t (by omega)
def tableOf (start keep : Int) (need : List Int) : List Int := tabUp start keep need need.length

theorem spec_l14Table_ev (need : List Int) (start keep : Int) (hn : need.length ≤ 10) (h : ∀ x ∈ need, 0 ≤ x ∧ x ≤ 20) (hs : 0 ≤ start ∧ start ≤ 100) (hk : 0 ≤ keep ∧ keep ≤ 10) :
    Ev (fun k => spec_l14Table.f k need start keep) (tableOf start keep need) := by
  unfold spec_l14Table.f
  have key := ev_up need.length (fun k t => spec_l14Table.l0 k (tabUp start keep need t) ((t + 1 : Nat) : Int) need start keep) (tableOf start keep need) (fun _ => True) trivial ?_ ?_
  · exact key
  · intro _
    refine Ev.succ ?_
    simp only [spec_l14Table.l0]
    exact Ev.neg (by omega) (Ev.now _)
  · intro t ht _ hn'
    have hlen := tabUp_length start keep need t
    have hb := tabUp_bounds start keep need hn h hs hk t (by omega)
    have ho : ∀ d, d ≤ t → 0 ≤ oneOf start keep (seg need d (t + 1)) ∧ oneOf start keep (seg need d (t + 1)) ≤ 30000 := fun d hd => oneOf_bounds start keep _ (fun y hy => h y (seg_mem _ _ _ hy)) (by rw [seg_length _ _ _ (by omega)]; omega) hs hk
    refine Ev.succ ?_
    simp only [spec_l14Table.l0]
    have h1 := spec_l14One_ev need start keep 0 (t + 1) (by omega) (by omega) hn h hs hk
    refine Ev.pos (by omega) (Ev.bind h1 ?_)
    have inner := ev_up t (fun k d => spec_l14Table.l1 k (tabUp start keep need t) ((t + 1 : Nat) : Int) (minTo (fun d => oneOf start keep (seg need d (t + 1))) (tabUp start keep need t) d) ((d + 1 : Nat) : Int) need start keep) (tableOf start keep need) (fun _ => True) trivial ?_ ?_
    · exact inner
    · intro _
      refine Ev.succ ?_
      simp only [spec_l14Table.l1]
      refine Ev.neg (by omega) (Ev.pos (by omega) ?_)
      rw [w64 (by omega) (by omega)]
      exact hn' trivial
    · intro d hd _ hnd
      have hd1 : d + 1 < (tabUp start keep need t).length := by omega
      have q1 := ho (d + 1) (by omega)
      have q2 := hb _ (List.getElem_mem hd1)
      have hnd' := hnd trivial
      refine Ev.succ ?_
      simp only [spec_l14Table.l1]
      refine Ev.pos (by omega) (Ev.pos (by omega) (Ev.pos (by omega) (Ev.bind (spec_l14One_ev need start keep (d + 1) (t + 1) (by omega) (by omega) hn h hs hk) ?_)))
      rw [rd_nat _ _ hd1, w64 (x := _ + oneOf _ _ _) (by omega) (by omega), w64 (by omega) (by omega)]
      simp only [minTo, rd_nat _ _ hd1] at hnd'
      refine Ev.ite (fun hc => ?_) (fun hc => ?_)
      · rw [if_pos hc] at hnd'; exact hnd'
      · rw [if_neg hc] at hnd'; exact hnd'

theorem impl_Trade_table_ev (need : List Int) (start keep : Int) (hn : need.length ≤ 10) (h : ∀ x ∈ need, 0 ≤ x ∧ x ≤ 20) (hs : 0 ≤ start ∧ start ≤ 100) (hk : 0 ≤ keep ∧ keep ≤ 10) :
    Ev (fun k => impl_Trade_table.f k need start keep) (tableOf start keep need) := by
  unfold impl_Trade_table.f
  have key := ev_up need.length (fun k t => impl_Trade_table.l0 k (tabUp start keep need t) ((t + 1 : Nat) : Int) need start keep) (tableOf start keep need) (fun _ => True) trivial ?_ ?_
  · exact key
  · intro _
    refine Ev.succ ?_
    simp only [impl_Trade_table.l0]
    exact Ev.neg (by omega) (Ev.now _)
  · intro t ht _ hn'
    have hlen := tabUp_length start keep need t
    have hb := tabUp_bounds start keep need hn h hs hk t (by omega)
    have ho : ∀ d, d ≤ t → 0 ≤ oneOf start keep (seg need d (t + 1)) ∧ oneOf start keep (seg need d (t + 1)) ≤ 30000 := fun d hd => oneOf_bounds start keep _ (fun y hy => h y (seg_mem _ _ _ hy)) (by rw [seg_length _ _ _ (by omega)]; omega) hs hk
    refine Ev.succ ?_
    simp only [impl_Trade_table.l0]
    have h1 := impl_Trade_single_ev need start keep 0 (t + 1) (by omega) (by omega) hn h hs hk
    have o0 := ho 0 (by omega)
    refine Ev.pos (by omega) (Ev.pos (by omega) (Ev.bind h1 ?_))
    rw [tabUp_zero, Int.zero_add, w64 (x := oneOf _ _ _) (by omega) (by omega)]
    have inner := ev_up t (fun k d => impl_Trade_table.l1 k (tabUp start keep need t) ((t + 1 : Nat) : Int) (minTo (fun d => oneOf start keep (seg need d (t + 1))) (tabUp start keep need t) d) ((d + 1 : Nat) : Int) need start keep) (tableOf start keep need) (fun _ => True) trivial ?_ ?_
    · exact inner
    · intro _
      refine Ev.succ ?_
      simp only [impl_Trade_table.l1]
      refine Ev.neg (by omega) (Ev.pos (by omega) ?_)
      rw [w64 (by omega) (by omega)]
      exact hn' trivial
    · intro d hd _ hnd
      have hd1 : d + 1 < (tabUp start keep need t).length := by omega
      have q1 := ho (d + 1) (by omega)
      have q2 := hb _ (List.getElem_mem hd1)
      have hnd' := hnd trivial
      refine Ev.succ ?_
      simp only [impl_Trade_table.l1]
      refine Ev.pos (by omega) (Ev.pos (by omega) (Ev.pos (by omega) (Ev.bind (impl_Trade_single_ev need start keep (d + 1) (t + 1) (by omega) (by omega) hn h hs hk) ?_)))
      rw [rd_nat _ _ hd1, w64 (x := _ + oneOf _ _ _) (by omega) (by omega), w64 (by omega) (by omega), mn]
      simp only [minTo, rd_nat _ _ hd1] at hnd'
      exact hnd'

theorem laws_markTrade_ev (l : List Int) (a b k0 : Int) (h0 : 0 ≤ k0 ∧ k0 ≤ 1073741824) (hl : l.length ≤ 1048576) : Ev (fun k => laws_markTrade.f k l a b k0) (k0 + (l.length : Int), upFrom k0 l.length) := by
  unfold laws_markTrade.f; exact Ev.bind (laws_markIntS_ev l k0 h0 hl) (Ev.now _)

end Go.Proofs.Ytagkblgpaallbaa.Pure
namespace Go.Proofs.Ytagkblgpaallbaa.Pure
open Go.RowKit Go.Proofs.Ytagkblgpaallbaa.Print Go.Proofs.YtagkblgpaallbaaW.PrintWords Go.Proofs.YtagkblgpaallbaaW.PrintLast Go.Proofs.YtagkblgpaallbaaW.PrintMore

def least (start keep : Int) (need : List Int) : Nat → Int
  | 0 => 0
  | t + 1 => minTo (fun d => oneOf start keep (seg need d (t + 1))) (tabUp start keep need t) t
theorem tabUp_rd (start keep : Int) (need : List Int) (N : Nat) : ∀ t, t ≤ N → rd (tabUp start keep need N) (t : Int) = least start keep need t := by
  induction N with
  | zero =>
    intro t ht
    obtain rfl : t = 0 := by omega
    exact tabUp_zero start keep need 0
  | succ N ih =>
    intro t ht
    have hl := tabUp_length start keep need N
    rw [rd_nat _ _ (by rw [tabUp_length]; omega)]
    rcases Nat.lt_or_ge t (N + 1) with h | h
    · have hi := ih t (by omega)
      rw [rd_nat _ _ (by omega)] at hi
      simp only [tabUp]
      rw [List.getElem_append_left (by omega)]
      exact hi
    · obtain rfl : t = N + 1 := by omega
      simp only [tabUp]
      rw [List.getElem_append_right (by omega)]
      simp [hl, least]
theorem minTo_some (one : Nat → Int) (out : List Int) (h0 : rd out 0 = 0) (n : Nat) : ∃ d, d ≤ n ∧ rd out (d : Int) + one d = minTo one out n := by
  induction n with
  | zero => exact ⟨0, Nat.le_refl _, by rw [minTo, Int.natCast_zero, h0]; omega⟩
  | succ n ih =>
    obtain ⟨d, hd, he⟩ := ih
    rw [minTo]
    split
    · exact ⟨n + 1, Nat.le_refl _, rfl⟩
    · exact ⟨d, by omega, he⟩
theorem least_some (start keep : Int) (need : List Int) (t : Nat) : ∃ d, d ≤ t ∧ least start keep need d + oneOf start keep (seg need d (t + 1)) = least start keep need (t + 1) := by
  obtain ⟨d, hd, he⟩ := minTo_some (fun d => oneOf start keep (seg need d (t + 1))) (tabUp start keep need t) (tabUp_zero start keep need t) t
  rw [tabUp_rd start keep need t d hd] at he
  exact ⟨d, hd, he⟩
def downTo (p : Nat → Bool) : Nat → Nat
  | 0 => 0
  | n + 1 => if p (n + 1) = true then n + 1 else downTo p n
theorem downTo_le (p : Nat → Bool) (n : Nat) : downTo p n ≤ n := by
  induction n with
  | zero => exact Nat.le_refl _
  | succ n ih => rw [downTo]; split <;> omega
theorem downTo_holds (p : Nat → Bool) (n : Nat) (h : ∃ d, d ≤ n ∧ p d = true) : p (downTo p n) = true := by
  induction n with
  | zero => obtain ⟨d, hd, hp⟩ := h; obtain rfl : d = 0 := by omega
            exact hp
  | succ n ih =>
    rw [downTo]
    split
    · assumption
    · rename_i hc
      obtain ⟨d, hd, hp⟩ := h
      refine ih ⟨d, ?_, hp⟩
      rcases Nat.lt_or_ge d (n + 1) with h | h
      · omega
      · obtain rfl : d = n + 1 := by omega
        exact absurd hp hc
inductive Parts : Nat → List Int → Nat → Prop
  | none (n : Nat) : Parts n [] n
  | some (a b n : Nat) (ds : List Int) : a < b → Parts b ds n → Parts a ((a : Int) :: ds) n
theorem Parts.snoc {a : Nat} {ds : List Int} {d n : Nat} (h : Parts a ds d) (hd : d < n) : Parts a (ds ++ [(d : Int)]) n := by
  induction h with
  | none d => exact .some d n n [] hd (.none n)
  | some a b n' ds hab _ ih => exact .some a b n (ds ++ [_]) hab (ih hd)
theorem Parts.le {a : Nat} {ds : List Int} {n : Nat} (h : Parts a ds n) : a ≤ n := by
  induction h with
  | none => exact Nat.le_refl _
  | some a b n ds hab _ ih => omega

theorem Parts.seg_get {need : List Int} {a b : Nat} (hab : a < b) (hb : b ≤ need.length) : need.drop a = seg need a b ++ need.drop b := by
  unfold seg
  rw [← List.drop_append_of_le_length (by rw [List.length_take]; omega), List.take_append_drop]
def lotsFrom (need : List Int) (n : Nat) : Nat → List Int → List Int
  | a, [] => List.replicate (n - a) 0
  | a, _ :: [] => (seg need a n).sum :: List.replicate (n - a - 1) 0
  | a, _ :: d :: ds => ((seg need a d.toNat).sum :: List.replicate (d.toNat - a - 1) 0) ++ lotsFrom need n d.toNat (d :: ds)
theorem costGo_zeros_app (start keep : Int) (ls rs : List Int) (ns : List Int) (h : ∀ x ∈ ns, 0 ≤ x ∧ x ≤ 20) : ∀ sum : Int, ∃ sum', costGo start keep (List.replicate ns.length 0 ++ ls) (ns ++ rs) sum ns.sum = costGo start keep ls rs sum' 0 := by
  induction ns with
  | nil => intro sum; exact ⟨sum, rfl⟩
  | cons n ns ih =>
    intro sum
    have h2 := sum_nonneg ns (fun x hx => h x (by simp [hx]))
    obtain ⟨s', hs'⟩ := ih (fun x hx => h x (by simp [hx])) (sum + keep * ns.sum)
    refine ⟨s', ?_⟩
    rw [List.length_cons, List.replicate_succ, List.cons_append, List.cons_append, costGo, List.sum_cons, if_neg (by omega), if_neg (by omega), show n + ns.sum + (0 - n) = ns.sum by omega]
    exact hs'
theorem costGo_seg (start keep : Int) (ls rs : List Int) (L : List Int) (hL : 0 < L.length) (h : ∀ x ∈ L, 0 ≤ x ∧ x ≤ 20) (sum : Int) : ∃ sum', costGo start keep ((L.sum :: List.replicate (L.length - 1) 0) ++ ls) (L ++ rs) sum 0 = costGo start keep ls rs sum' 0 := by
  cases L with
  | nil => simp at hL
  | cons n ns =>
    have h2 := sum_nonneg ns (fun x hx => h x (by simp [hx]))
    obtain ⟨s', hs'⟩ := costGo_zeros_app start keep ls rs ns (fun x hx => h x (by simp [hx])) ((if n + ns.sum > 0 then sum + start else sum) + keep * ns.sum)
    refine ⟨s', ?_⟩
    rw [List.cons_append, List.cons_append, costGo, List.sum_cons, show 0 + (n + ns.sum - n) = ns.sum by omega, if_neg (by omega)]
    exact hs'
theorem Parts.nil_eq {a n : Nat} (h : Parts a [] n) : a = n := by cases h; rfl
theorem Parts.cons_inv {a n : Nat} {g : Int} {ds : List Int} (h : Parts a (g :: ds) n) : g = (a : Int) ∧ ∃ b, a < b ∧ b ≤ n ∧ Parts b ds n := by
  cases h with
  | some a b n ds hab hb => exact ⟨rfl, b, hab, hb.le, hb⟩
theorem costGo_parts (start keep : Int) (need : List Int) (h : ∀ x ∈ need, 0 ≤ x ∧ x ≤ 20) (ds : List Int) : ∀ (a : Nat) (sum : Int), Parts a ds need.length → ∃ s, costGo start keep (lotsFrom need need.length a ds) (need.drop a) sum 0 = some s := by
  induction ds with
  | nil =>
    intro a sum hp
    have := hp.nil_eq
    refine ⟨sum, ?_⟩
    rw [lotsFrom, show need.length - a = 0 by omega]; rfl
  | cons g ds ih =>
    intro a sum hp
    obtain ⟨hg, b, hab, hbn, hb⟩ := hp.cons_inv
    have hl : (seg need a b).length = b - a := seg_length need a b hbn
    have hm : ∀ x ∈ seg need a b, 0 ≤ x ∧ x ≤ 20 := fun x hx => h x (seg_mem _ _ _ hx)
    cases ds with
    | nil =>
      obtain rfl := hb.nil_eq
      obtain ⟨s', hs'⟩ := costGo_seg start keep [] [] (seg need a need.length) (by omega) hm sum
      rw [List.append_nil, List.append_nil, hl] at hs'
      refine ⟨s', ?_⟩
      rw [lotsFrom, Parts.seg_get hab hbn, List.drop_length, List.append_nil, hs']; rfl
    | cons d ds =>
      obtain ⟨hd, _⟩ := hb.cons_inv
      obtain ⟨s', hs'⟩ := costGo_seg start keep (lotsFrom need need.length b (d :: ds)) (need.drop b) (seg need a b) (by omega) hm sum
      obtain ⟨s, hs⟩ := ih b s' hb
      refine ⟨s, ?_⟩
      rw [lotsFrom, hd, toNat_nat, Parts.seg_get hab hbn, ← hl, ← hd, hs', hs]
theorem set_lots (done : List Int) (S : Int) (a b n : Nat) (hd : done.length = a) (hab : a < b) (hb : b ≤ n) : (done ++ List.replicate (n - a) 0).set a S = (done ++ S :: List.replicate (b - a - 1) 0) ++ List.replicate (n - b) 0 := by
  rw [List.set_append_right _ _ (by omega), hd, Nat.sub_self, show n - a = (b - a - 1 + (n - b)) + 1 by omega, List.replicate_succ, List.set_cons_zero, ← List.replicate_append_replicate]
  simp

theorem impl_lotsFor_go (need : List Int) (start keep : Int) (h : ∀ x ∈ need, 0 ≤ x ∧ x ≤ 20) (hn : need.length ≤ 10) (D : List Int) (hD : D.length ≤ 1048576) (rest : List Int) : ∀ (a i : Nat) (done : List Int), D.drop i = rest → i ≤ D.length → Parts a rest need.length → done.length = a →
    Ev (fun k => impl_Trade_lotsFor.l0 k D (done ++ List.replicate (need.length - a) 0) D (D.length : Int) (i : Int) need start keep) (done ++ lotsFrom need need.length a rest) := by
  induction rest with
  | nil =>
    intro a i done hd hi hp hl
    have : i = D.length := by have := congrArg List.length hd; simp at this; omega
    refine Ev.succ ?_
    simp only [impl_Trade_lotsFor.l0]
    exact Ev.neg (by omega) (Ev.now _)
  | cons g rest ih =>
    intro a i done hd hi hp hl
    have hlt : i < D.length := by
      rcases Nat.lt_or_ge i D.length with h | h
      · exact h
      · rw [List.drop_eq_nil_of_le h] at hd; cases hd
    rw [List.drop_eq_getElem_cons hlt] at hd
    obtain ⟨h1, h2⟩ := List.cons.inj hd
    obtain ⟨hg, b, hab, hbn, hb⟩ := hp.cons_inv
    have hm : ∀ x ∈ seg need a b, 0 ≤ x ∧ x ≤ 20 := fun x hx => h x (seg_mem _ _ _ hx)
    have hsl := seg_length need a b hbn
    have hsum := impl_sum_ev (seg need a b) 0 20 hm (by omega) (by omega) (by omega)
    have hlen : (done ++ List.replicate (need.length - a) (0 : Int)).length = need.length := by simp [hl]; omega
    have hnext := ih b (i + 1) (done ++ (seg need a b).sum :: List.replicate (b - a - 1) 0) h2 (by omega) hb (by simp [hl]; omega)
    rw [← set_lots done (seg need a b).sum a b need.length hl hab hbn] at hnext
    refine Ev.succ ?_
    simp only [impl_Trade_lotsFor.l0]
    rw [rd_nat _ _ hlt, h1, hg, w64 (x := (i : Int) + 1) (by omega) (by omega), toNat_nat]
    refine Ev.pos (by omega) (Ev.pos (by omega) (Ev.pos (by omega) ?_))
    cases rest with
    | nil =>
      obtain rfl := hb.nil_eq
      have hend : i + 1 = D.length := by have := congrArg List.length h2; simp at this; omega
      refine Ev.neg (by omega) (Ev.pos (by omega) (Ev.pos (by omega) (Ev.pos (by omega) ?_)))
      rw [toNat_nat]
      refine Ev.bind hsum (Ev.pos (by rw [hlen]; omega) ?_)
      have e : done ++ lotsFrom need need.length a ((a : Int) :: []) = (done ++ (seg need a need.length).sum :: List.replicate (need.length - a - 1) 0) ++ lotsFrom need need.length need.length [] := by
        rw [lotsFrom, lotsFrom]; simp
      rw [e]; exact hnext
    | cons d ds =>
      obtain ⟨hd', _⟩ := hb.cons_inv
      have hlt2 : i + 1 < D.length := by have := congrArg List.length h2; simp at this; omega
      have hr : rd D ((i : Int) + 1) = (b : Int) := by
        have e := rd_nat D (i + 1) hlt2
        rw [List.drop_eq_getElem_cons hlt2] at h2
        rw [(List.cons.inj h2).1, hd'] at e
        rw [← e]; congr 1
      rw [hr, toNat_nat]
      refine Ev.pos (by omega) (Ev.pos (by omega) (Ev.pos (by omega) (Ev.pos (by omega) (Ev.pos (by omega) (Ev.bind hsum (Ev.pos (by rw [hlen]; omega) ?_))))))
      have e : done ++ lotsFrom need need.length a ((a : Int) :: d :: ds) = (done ++ (seg need a b).sum :: List.replicate (b - a - 1) 0) ++ lotsFrom need need.length b (d :: ds) := by
        rw [lotsFrom, hd', toNat_nat]; simp
      rw [e]; exact hnext

theorem take_seg_succ (need : List Int) (a c : Nat) (hac : a ≤ c) (hc : c < need.length) : (seg need a (c + 1)).sum = (seg need a c).sum + need[c] := by
  unfold seg
  rw [List.take_succ_eq_append_getElem hc, List.drop_append_of_le_length (by rw [List.length_take]; omega), List.sum_append]
  simp
theorem spec_l14For_one (need : List Int) (start keep : Int) (h : ∀ x ∈ need, 0 ≤ x ∧ x ≤ 20) (hn : need.length ≤ 10) (D : List Int) (r : List Int) (i : Int) (out : List Int) (a b : Nat) (hab : a < b) (hb : b ≤ need.length) (ho : a < out.length)
    (hd : Ev (fun k => spec_l14For.l0 k D (out.set a (seg need a b).sum) D (D.length : Int) (wrap64 (i + 1)) need start keep) r) (m : Nat) : ∀ c, c + m = b → a ≤ c → Ev (fun k => spec_l14For.l1 k D (out.set a (seg need a c).sum) (a : Int) (b : Int) (c : Int) D (D.length : Int) i need start keep) r := by
  induction m with
  | zero =>
    intro c hc _
    obtain rfl : c = b := by omega
    refine Ev.succ ?_
    simp only [spec_l14For.l1]
    exact Ev.neg (by omega) hd
  | succ m ih =>
    intro c hc hac
    have hcn : c < need.length := by omega
    have hq := h _ (List.getElem_mem hcn)
    have hs := sum_nonneg (seg need a c) (fun x hx => h x (seg_mem _ _ _ hx))
    have hsl := seg_length need a c (by omega)
    have hx : a < (out.set a (seg need a c).sum).length := by rw [List.length_set]; exact ho
    refine Ev.succ ?_
    simp only [spec_l14For.l1]
    refine Ev.pos (by omega) (Ev.pos (by omega) (Ev.pos (by omega) (Ev.pos (by omega) (Ev.pos (by omega) ?_))))
    rw [rd_nat _ _ hx, rd_nat _ _ hcn, List.getElem_set_self, toNat_nat, w64 (x := _ + need[c]) (by omega) (by omega), w64 (x := (c : Int) + 1) (by omega) (by omega), List.set_set, ← take_seg_succ need a c hac hcn]
    exact ih (c + 1) (by omega) (by omega)
theorem spec_l14For_go (need : List Int) (start keep : Int) (h : ∀ x ∈ need, 0 ≤ x ∧ x ≤ 20) (hn : need.length ≤ 10) (D : List Int) (hD : D.length ≤ 1048576) (rest : List Int) : ∀ (a i : Nat) (done : List Int), D.drop i = rest → i ≤ D.length → Parts a rest need.length → done.length = a →
    Ev (fun k => spec_l14For.l0 k D (done ++ List.replicate (need.length - a) 0) D (D.length : Int) (i : Int) need start keep) (done ++ lotsFrom need need.length a rest) := by
  induction rest with
  | nil =>
    intro a i done hd hi hp hl
    have : i = D.length := by have := congrArg List.length hd; simp at this; omega
    refine Ev.succ ?_
    simp only [spec_l14For.l0]
    exact Ev.neg (by omega) (Ev.now _)
  | cons g rest ih =>
    intro a i done hd hi hp hl
    have hlt : i < D.length := by
      rcases Nat.lt_or_ge i D.length with h | h
      · exact h
      · rw [List.drop_eq_nil_of_le h] at hd; cases hd
    rw [List.drop_eq_getElem_cons hlt] at hd
    obtain ⟨h1, h2⟩ := List.cons.inj hd
    obtain ⟨hg, b, hab, hbn, hb⟩ := hp.cons_inv
    have hlen : (done ++ List.replicate (need.length - a) (0 : Int)).length = need.length := by simp [hl]; omega
    have hnext := ih b (i + 1) (done ++ (seg need a b).sum :: List.replicate (b - a - 1) 0) h2 (by omega) hb (by simp [hl]; omega)
    rw [← set_lots done (seg need a b).sum a b need.length hl hab hbn] at hnext
    have h0 : (done ++ List.replicate (need.length - a) (0 : Int)).set a (seg need a a).sum = done ++ List.replicate (need.length - a) 0 := by
      have : seg need a a = [] := by apply List.length_eq_zero_iff.mp; rw [seg_length _ _ _ (by omega)]; omega
      rw [this, List.set_append_right _ _ (by omega), hl, Nat.sub_self, show need.length - a = (need.length - a - 1) + 1 by omega, List.replicate_succ]; rfl
    have one : ∀ r, Ev (fun k => spec_l14For.l0 k D ((done ++ List.replicate (need.length - a) 0).set a (seg need a b).sum) D (D.length : Int) (wrap64 ((i : Int) + 1)) need start keep) r → Ev (fun k => spec_l14For.l1 k D (done ++ List.replicate (need.length - a) 0) (a : Int) (b : Int) (a : Int) D (D.length : Int) (i : Int) need start keep) r := fun r hr => by
      have := spec_l14For_one need start keep h hn D r (i : Int) (done ++ List.replicate (need.length - a) 0) a b hab hbn (by rw [hlen]; omega) hr (b - a) a (by omega) (Nat.le_refl _)
      rw [h0] at this; exact this
    refine Ev.succ ?_
    simp only [spec_l14For.l0]
    refine Ev.pos (by omega) (Ev.pos (by omega) (Ev.pos (by omega) ?_))
    rw [rd_nat _ _ hlt, h1, hg]
    cases rest with
    | nil =>
      obtain rfl := hb.nil_eq
      have hend : i + 1 = D.length := by have := congrArg List.length h2; simp at this; omega
      rw [w64 (x := (i : Int) + 1) (by omega) (by omega)] at *
      refine Ev.neg (by omega) ?_
      refine Ev.succ ?_
      simp only [spec_l14For.j1]
      refine one _ ?_
      have e : done ++ lotsFrom need need.length a ((a : Int) :: []) = (done ++ (seg need a need.length).sum :: List.replicate (need.length - a - 1) 0) ++ lotsFrom need need.length need.length [] := by
        rw [lotsFrom, lotsFrom]; simp
      rw [e]; exact hnext
    | cons d ds =>
      obtain ⟨hd', _⟩ := hb.cons_inv
      have hlt2 : i + 1 < D.length := by have := congrArg List.length h2; simp at this; omega
      have hr : rd D ((i : Int) + 1) = (b : Int) := by
        have e := rd_nat D (i + 1) hlt2
        rw [List.drop_eq_getElem_cons hlt2] at h2
        rw [(List.cons.inj h2).1, hd'] at e
        rw [← e]; congr 1
      rw [w64 (x := (i : Int) + 1) (by omega) (by omega)] at *
      rw [hr]
      refine Ev.pos (by omega) (Ev.pos (by omega) ?_)
      refine Ev.succ ?_
      simp only [spec_l14For.j1]
      refine one _ ?_
      have e : done ++ lotsFrom need need.length a ((a : Int) :: d :: ds) = (done ++ (seg need a b).sum :: List.replicate (b - a - 1) 0) ++ lotsFrom need need.length b (d :: ds) := by
        rw [lotsFrom, hd', toNat_nat]; simp
      rw [e]; exact hnext

end Go.Proofs.Ytagkblgpaallbaa.Pure
namespace Go.Proofs.Ytagkblgpaallbaa.Pure
open Go.RowKit Go.Proofs.Ytagkblgpaallbaa.Print Go.Proofs.YtagkblgpaallbaaW.PrintWords Go.Proofs.YtagkblgpaallbaaW.PrintLast Go.Proofs.YtagkblgpaallbaaW.PrintMore

theorem slices_Reverse_go (m : Nat) : ∀ (A M B : List Int), M.length ≤ m → (A ++ M ++ B).length ≤ 1048576 → Ev (fun k => slices_Reverse_int_int.l0 k (A ++ M ++ B) (A.length : Int) ((A.length : Int) + (M.length : Int) - 1)) (A ++ M.reverse ++ B) := by
  induction m using Nat.strongRecOn with
  | _ m ih =>
    intro A M B hm hl
    rcases Nat.lt_or_ge M.length 2 with h2 | h2
    · refine Ev.succ ?_
      simp only [slices_Reverse_int_int.l0]
      refine Ev.neg (by omega) (Ev.to (Ev.now _) ?_)
      match M, h2 with
      | [], _ => rfl
      | [x], _ => rfl
    · obtain ⟨x, M1, rfl⟩ : ∃ x M1, M = x :: M1 := by cases M with | nil => simp at h2 | cons x M1 => exact ⟨x, M1, rfl⟩
      obtain ⟨M2, y, rfl⟩ : ∃ M2 y, M1 = M2 ++ [y] := ⟨M1.dropLast, M1.getLast (by intro h; simp [h] at h2), (List.dropLast_concat_getLast _).symm⟩
      simp only [List.length_append, List.length_cons, List.length_nil] at h2 hm hl
      have hi : A.length < (A ++ x :: (M2 ++ [y]) ++ B).length := by simp <;> omega
      have hj : A.length + 1 + M2.length < (A ++ x :: (M2 ++ [y]) ++ B).length := by simp <;> omega
      have ej : (A.length : Int) + ((x :: (M2 ++ [y])).length : Int) - 1 = ((A.length + 1 + M2.length : Nat) : Int) := by simp <;> omega
      have rx : (A ++ x :: (M2 ++ [y]) ++ B)[A.length] = x := by simp
      have ry : (A ++ x :: (M2 ++ [y]) ++ B)[A.length + 1 + M2.length] = y := by
        rw [List.getElem_append_left (by simp <;> omega), List.getElem_append_right (by omega)]
        rw [List.getElem_cons, dif_neg (by omega), List.getElem_append_right (by omega)]
        simp
      have sw : ((A ++ x :: (M2 ++ [y]) ++ B).set A.length y).set (A.length + 1 + M2.length) x = (A ++ [y]) ++ M2 ++ ([x] ++ B) := by
        rw [List.append_assoc, List.set_append_right _ _ (Nat.le_refl _), Nat.sub_self, List.cons_append, List.set_cons_zero, List.set_append_right _ _ (by omega), show A.length + 1 + M2.length - A.length = M2.length + 1 by omega, List.set_cons_succ, List.append_assoc, List.set_append_right _ _ (Nat.le_refl _), Nat.sub_self]
        simp
      refine Ev.succ ?_
      rw [ej]
      simp only [slices_Reverse_int_int.l0]
      refine Ev.pos (by omega) (Ev.pos (by omega) (Ev.pos (lt_len hj) (Ev.pos (by omega) (Ev.pos (lt_len hi) ?_))))
      rw [rd_nat _ _ hi, rd_nat _ _ hj, rx, ry, toNat_nat, toNat_nat, sw, w64 (by omega) (by omega), w64 (by omega) (by omega)]
      have := ih M2.length (by omega) (A ++ [y]) M2 ([x] ++ B) (Nat.le_refl _) (by simp <;> omega)
      have e1 : ((A ++ [y]).length : Int) = (A.length : Int) + 1 := by simp
      have e2 : ((A ++ [y]).length : Int) + (M2.length : Int) - 1 = ((A.length + 1 + M2.length : Nat) : Int) - 1 := by simp <;> omega
      rw [e2, e1] at this
      refine Ev.to this ?_
      simp
theorem slices_Reverse_ev (l : List Int) (h : l.length ≤ 1048576) : Ev (fun k => slices_Reverse_int_int.f k l) l.reverse := by
  unfold slices_Reverse_int_int.f
  rw [w64 (by omega) (by omega)]
  have := slices_Reverse_go l.length [] l [] (Nat.le_refl _) (by simpa using h)
  simpa using this

end Go.Proofs.Ytagkblgpaallbaa.Pure
namespace Go.Proofs.Ytagkblgpaallbaa.Pure
open Go.RowKit Go.Proofs.Ytagkblgpaallbaa.Print Go.Proofs.YtagkblgpaallbaaW.PrintWords Go.Proofs.YtagkblgpaallbaaW.PrintLast Go.Proofs.YtagkblgpaallbaaW.PrintMore

theorem best_back (need : List Int) (start keep : Int) (hn : need.length ≤ 10) (h : ∀ x ∈ need, 0 ≤ x ∧ x ≤ 20) (hs : 0 ≤ start ∧ start ≤ 100) (hk : 0 ≤ keep ∧ keep ≤ 10) (td : Nat) : td ≤ need.length → ∃ days : List Int, Parts 0 days td ∧ days.length ≤ td ∧
    (∀ (acc : List Int) (r : List Int × Int × Bool), acc.length + td ≤ 1000 → Ev (fun k => (slices_Reverse_int_int.f k (acc ++ days.reverse)).bind fun t109 => ((impl_Trade_lotsFor.f k need start keep t109).bind fun t110 => ((impl_Trade_cost.f k need start keep t110).bind fun bt113 => (some (t110, bt113.1, true))))) r → Ev (fun k => impl_BestLots.l0 k (tableOf start keep need) acc (td : Int) need start keep) r) ∧
    (∀ (acc : List Int) (r : List Int × Int × Bool), acc.length + td ≤ 1000 → Ev (fun k => (spec_l14For.f k need start keep (days ++ acc)).bind fun t106 => ((spec_l14Cost.f k need start keep t106).bind fun t109 => (some (t106, t109, true)))) r → Ev (fun k => spec_BestLots.l0 k (tableOf start keep need) acc (td : Int) need start keep) r) := by
  induction td using Nat.strongRecOn with
  | _ td ih =>
    intro hto
    cases td with
    | zero =>
      refine ⟨[], .none 0, Nat.le_refl _, fun acc r _ hr => ?_, fun acc r _ hr => ?_⟩
      · refine Ev.succ ?_
        simp only [impl_BestLots.l0]
        refine Ev.neg (by omega) ?_
        have := Ev.now (r := r)
        simpa using hr
      · refine Ev.succ ?_
        simp only [spec_BestLots.l0]
        refine Ev.neg (by omega) ?_
        simpa using hr
    | succ t =>
      have hT : ∀ d, d ≤ need.length → rd (tableOf start keep need) (d : Int) = least start keep need d := fun d hd => tabUp_rd start keep need need.length d hd
      have hTl : (tableOf start keep need).length = need.length + 1 := tabUp_length start keep need need.length
      have hTb := tabUp_bounds start keep need hn h hs hk need.length (Nat.le_refl _)
      have hlb : ∀ d, d ≤ need.length → 0 ≤ least start keep need d ∧ least start keep need d ≤ 30000 := fun d hd => by
        rw [← hT d hd, rd_nat _ _ (by omega)]; exact hTb _ (List.getElem_mem _)
      have hob : ∀ d, d ≤ t → 0 ≤ oneOf start keep (seg need d (t + 1)) ∧ oneOf start keep (seg need d (t + 1)) ≤ 30000 := fun d hd => oneOf_bounds start keep _ (fun y hy => h y (seg_mem _ _ _ hy)) (by rw [seg_length _ _ _ hto]; omega) hs hk
      let p : Nat → Bool := fun d => decide (least start keep need d + oneOf start keep (seg need d (t + 1)) = least start keep need (t + 1))
      have hex : ∃ d, d ≤ t ∧ p d = true := by
        obtain ⟨d, hd, he⟩ := least_some start keep need t
        exact ⟨d, hd, decide_eq_true he⟩
      have hq := downTo_holds p t hex
      have hqt := downTo_le p t
      obtain ⟨days, hp, hdl, hI, hS⟩ := ih (downTo p t) (by omega) (by omega)
      refine ⟨days ++ [((downTo p t : Nat) : Int)], hp.snoc (by omega), by simp; omega, fun acc r ha hr => ?_, fun acc r ha hr => ?_⟩
      · have hnext := hI (acc ++ [((downTo p t : Nat) : Int)]) r (by simp; omega) (by simpa using hr)
        have inner : ∀ e, e ≤ t → p (downTo p e) = true → Ev (fun k => impl_BestLots.l0 k (tableOf start keep need) (acc ++ [((downTo p e : Nat) : Int)]) ((downTo p e : Nat) : Int) need start keep) r → Ev (fun k => impl_BestLots.l1 k (tableOf start keep need) acc ((t + 1 : Nat) : Int) (e : Int) need start keep) r := by
          intro e
          induction e with
          | zero =>
            intro _ hpe hd
            have hpe' := of_decide_eq_true hpe
            refine Ev.succ ?_
            simp only [impl_BestLots.l1]
            refine Ev.pos (by omega) (Ev.pos (by omega) (Ev.bind (impl_Trade_single_ev need start keep 0 (t + 1) (by omega) hto hn h hs hk) (Ev.pos (by omega) (Ev.pos (by omega) ?_))))
            have b1 := hlb 0 (by omega)
            have b2 := hob 0 (by omega)
            rw [hT 0 (by omega), hT (t + 1) hto, w64 (by omega) (by omega)]
            exact Ev.pos hpe' (Ev.pos (by omega) hd)
          | succ e ihe =>
            intro he hpe hd
            have b1 := hlb (e + 1) (by omega)
            have b2 := hob (e + 1) he
            refine Ev.succ ?_
            simp only [impl_BestLots.l1]
            refine Ev.pos (by omega) (Ev.pos (by omega) (Ev.bind (impl_Trade_single_ev need start keep (e + 1) (t + 1) (by omega) hto hn h hs hk) (Ev.pos (by omega) (Ev.pos (by omega) ?_))))
            rw [hT (e + 1) (by omega), hT (t + 1) hto, w64 (x := _ + oneOf _ _ _) (by omega) (by omega), w64 (x := ((e + 1 : Nat) : Int) - 1) (by omega) (by omega), show ((e + 1 : Nat) : Int) - 1 = (e : Int) by omega]
            by_cases hc : least start keep need (e + 1) + oneOf start keep (seg need (e + 1) (t + 1)) = least start keep need (t + 1)
            · have hpt : p (e + 1) = true := decide_eq_true hc
              rw [downTo, if_pos hpt] at hd
              exact Ev.pos hc (Ev.pos (by omega) hd)
            · have hpf : ¬ p (e + 1) = true := fun q => hc (of_decide_eq_true q)
              rw [downTo, if_neg hpf] at hd hpe
              exact Ev.neg hc (ihe (by omega) hpe hd)
        refine Ev.succ ?_
        simp only [impl_BestLots.l0]
        refine Ev.pos (by omega) ?_
        rw [w64 (by omega) (by omega), show ((t + 1 : Nat) : Int) - 1 = (t : Int) by omega]
        exact inner t (Nat.le_refl _) hq hnext
      · have hnext := hS (((downTo p t : Nat) : Int) :: acc) r (by simp; omega) (by simpa using hr)
        have inner : ∀ e, e ≤ t → p (downTo p e) = true → Ev (fun k => spec_BestLots.l0 k (tableOf start keep need) (((downTo p e : Nat) : Int) :: acc) ((downTo p e : Nat) : Int) need start keep) r → Ev (fun k => spec_BestLots.l1 k (tableOf start keep need) acc ((t + 1 : Nat) : Int) (e : Int) need start keep) r := by
          intro e
          induction e with
          | zero =>
            intro _ hpe hd
            have hpe' := of_decide_eq_true hpe
            refine Ev.succ ?_
            simp only [spec_BestLots.l1]
            refine Ev.pos (by omega) (Ev.pos (by omega) (Ev.bind (spec_l14One_ev need start keep 0 (t + 1) (by omega) hto hn h hs hk) (Ev.pos (by omega) (Ev.pos (by omega) ?_))))
            have b1 := hlb 0 (by omega)
            have b2 := hob 0 (by omega)
            rw [hT 0 (by omega), hT (t + 1) hto, w64 (by omega) (by omega)]
            exact Ev.pos hpe' (Ev.bind0 rfl (Ev.pos (by simp; omega) hd))
          | succ e ihe =>
            intro he hpe hd
            have b1 := hlb (e + 1) (by omega)
            have b2 := hob (e + 1) he
            refine Ev.succ ?_
            simp only [spec_BestLots.l1]
            refine Ev.pos (by omega) (Ev.pos (by omega) (Ev.bind (spec_l14One_ev need start keep (e + 1) (t + 1) (by omega) hto hn h hs hk) (Ev.pos (by omega) (Ev.pos (by omega) ?_))))
            rw [hT (e + 1) (by omega), hT (t + 1) hto, w64 (x := _ + oneOf _ _ _) (by omega) (by omega), w64 (x := ((e + 1 : Nat) : Int) - 1) (by omega) (by omega), show ((e + 1 : Nat) : Int) - 1 = (e : Int) by omega]
            by_cases hc : least start keep need (e + 1) + oneOf start keep (seg need (e + 1) (t + 1)) = least start keep need (t + 1)
            · have hpt : p (e + 1) = true := decide_eq_true hc
              rw [downTo, if_pos hpt] at hd
              exact Ev.pos hc (Ev.bind0 rfl (Ev.pos (by simp; omega) hd))
            · have hpf : ¬ p (e + 1) = true := fun q => hc (of_decide_eq_true q)
              rw [downTo, if_neg hpf] at hd hpe
              exact Ev.neg hc (ihe (by omega) hpe hd)
        refine Ev.succ ?_
        simp only [spec_BestLots.l0]
        refine Ev.pos (by omega) ?_
        rw [w64 (by omega) (by omega), show ((t + 1 : Nat) : Int) - 1 = (t : Int) by omega]
        exact inner t (Nat.le_refl _) hq hnext
theorem lotsFrom_length (need : List Int) (n : Nat) (ds : List Int) : ∀ a, Parts a ds n → (lotsFrom need n a ds).length = n - a := by
  induction ds with
  | nil => intro a _; rw [lotsFrom]; simp
  | cons g ds ih =>
    intro a hp
    obtain ⟨_, b, hab, hbn, hb⟩ := hp.cons_inv
    cases ds with
    | nil => rw [lotsFrom]; simp; omega
    | cons d ds =>
      obtain ⟨hd, _⟩ := hb.cons_inv
      rw [lotsFrom, hd, toNat_nat, ← hd, List.length_append, ih b hb]; simp; omega
theorem lotsFrom_mem (need : List Int) (h : ∀ x ∈ need, 0 ≤ x ∧ x ≤ 20) (hn : need.length ≤ 10) (n : Nat) (hnn : n ≤ need.length) (ds : List Int) : ∀ a, Parts a ds n → ∀ x ∈ lotsFrom need n a ds, 0 ≤ x ∧ x ≤ 200 := by
  have hz : ∀ (m : Nat) (x : Int), x ∈ List.replicate m (0 : Int) → 0 ≤ x ∧ x ≤ 200 := fun m x hx => by have := List.eq_of_mem_replicate hx; omega
  have hsg : ∀ a b, b ≤ need.length → 0 ≤ (seg need a b).sum ∧ (seg need a b).sum ≤ 200 := fun a b hb => by
    have := sum_nonneg (seg need a b) (fun x hx => h x (seg_mem _ _ _ hx))
    rw [seg_length _ _ _ hb] at this; omega
  induction ds with
  | nil => intro a _ x hx; rw [lotsFrom] at hx; exact hz _ x hx
  | cons g ds ih =>
    intro a hp x hx
    obtain ⟨_, b, hab, hbn, hb⟩ := hp.cons_inv
    cases ds with
    | nil =>
      rw [lotsFrom] at hx
      rcases List.mem_cons.mp hx with rfl | hx
      · exact hsg a n hnn
      · exact hz _ x hx
    | cons d ds =>
      obtain ⟨hd, _⟩ := hb.cons_inv
      rw [lotsFrom, hd, toNat_nat, ← hd] at hx
      rcases List.mem_append.mp hx with hx | hx
      · rcases List.mem_cons.mp hx with rfl | hx
        · exact hsg a b (by omega)
        · exact hz _ x hx
      · exact ih b hb x hx
theorem best_ev (need : List Int) (start keep : Int) (hn : 1 ≤ need.length ∧ need.length ≤ 10) (h : ∀ x ∈ need, 0 ≤ x ∧ x ≤ 20) (hs : 0 ≤ start ∧ start ≤ 100) (hk : 0 ≤ keep ∧ keep ≤ 10) :
    ∃ lots s, lots.length ≤ 10 ∧ Ev (fun k => impl_BestLots.l0 k (tableOf start keep need) ([] : List Int) (need.length : Int) need start keep) (lots, s, true) ∧ Ev (fun k => spec_BestLots.l0 k (tableOf start keep need) ([] : List Int) (need.length : Int) need start keep) (lots, s, true) := by
  obtain ⟨days, hp, hdl, hI, hS⟩ := best_back need start keep hn.2 h hs hk need.length (Nat.le_refl _)
  obtain ⟨s, hc⟩ := costGo_parts start keep need h days 0 0 hp
  rw [List.drop_zero] at hc
  have hll := lotsFrom_length need need.length days 0 hp
  have hlm := lotsFrom_mem need h hn.2 need.length (Nat.le_refl _) days 0 hp
  refine ⟨lotsFrom need need.length 0 days, s, by omega, hI [] _ (by simp; omega) ?_, hS [] _ (by simp; omega) ?_⟩
  · have h1 := slices_Reverse_ev ([] ++ days.reverse) (by simp; omega)
    have h2 := impl_lotsFor_go need start keep h hn.2 days (by omega) days 0 0 [] (by simp) (by omega) hp rfl
    have h3 := impl_Trade_cost_ev need (lotsFrom need need.length 0 days) start keep hn.2 (by omega) h hlm hs hk
    rw [hc] at h3
    refine Ev.bind h1 ?_
    rw [List.nil_append, List.reverse_reverse]
    refine Ev.bind (show Ev (fun k => impl_Trade_lotsFor.f k need start keep days) (lotsFrom need need.length 0 days) from ?_) (Ev.bind h3 (Ev.now _))
    unfold impl_Trade_lotsFor.f
    refine Ev.pos (by omega) (Ev.pos (by rw [toNat_nat]; omega) ?_)
    rw [toNat_nat]
    simpa using h2
  · have h2 := spec_l14For_go need start keep h hn.2 days (by omega) days 0 0 [] (by simp) (by omega) hp rfl
    have h3 := spec_l14Cost_ev need (lotsFrom need need.length 0 days) start keep hn.2 (by omega) h hlm hs hk
    rw [hc] at h3
    rw [List.append_nil]
    refine Ev.bind (show Ev (fun k => spec_l14For.f k need start keep days) (lotsFrom need need.length 0 days) from ?_) (Ev.bind h3 (Ev.now _))
    unfold spec_l14For.f
    refine Ev.pos (by omega) (Ev.pos (by rw [toNat_nat]; omega) ?_)
    rw [toNat_nat]
    simpa using h2

theorem BestLots_ev (need : List Int) (start keep : Int) (h : need.length ≤ 1048576) : ∃ R : List Int × Int × Bool, R.1.length ≤ 10 ∧ Ev (fun k => impl_BestLots.f k need start keep) R ∧ Ev (fun k => spec_BestLots.f k need start keep) R := by
  by_cases h1 : tradeOk need start keep = true
  · obtain ⟨hn, h3, hs, hk⟩ := (tradeOk_iff _ _ _).mp h1
    obtain ⟨lots, s, hl, hI, hS⟩ := best_ev need start keep hn h3 hs hk
    refine ⟨(lots, s, true), hl, ?_, ?_⟩
    · unfold impl_BestLots.f
      exact Ev.bind (impl_GoodTrade_ev need start keep h) (Ev.pos h1 (Ev.bind (impl_Trade_table_ev need start keep hn.2 h3 hs hk) hI))
    · unfold spec_BestLots.f
      exact Ev.bind (spec_GoodTrade_ev need start keep h) (Ev.pos h1 (Ev.bind (spec_l14Table_ev need start keep hn.2 h3 hs hk) hS))
  · refine ⟨([], 0, false), by simp, ?_, ?_⟩
    · unfold impl_BestLots.f
      exact Ev.bind (impl_GoodTrade_ev need start keep h) (Ev.neg h1 (Ev.now _))
    · unfold spec_BestLots.f
      exact Ev.bind (spec_GoodTrade_ev need start keep h) (Ev.neg h1 (Ev.now _))

end Go.Proofs.Ytagkblgpaallbaa.Pure
namespace Go.Proofs.Ytagkblgpaallbaa.Pure
open Go.RowKit Go.Proofs.Ytagkblgpaallbaa.Print Go.Proofs.YtagkblgpaallbaaW.PrintWords Go.Proofs.YtagkblgpaallbaaW.PrintLast Go.Proofs.YtagkblgpaallbaaW.PrintMore

theorem FnExactBestLots : laws_FnExactBestLots.Pure := by
  intro l0 a b hw0 _ _
  refine Ev.rounds (g := fun k => laws_FnExactBestLots.f k l0 a b) ?_
  unfold laws_FnExactBestLots.f
  refine Ev.bind0 (laws_szTrade_eq l0 a b hw0.1) ?_
  by_cases hc : (l0.length : Int) > 1048576
  · rw [if_pos hc]; exact Ev.pos (by omega) (Ev.now _)
  rw [if_neg hc]
  refine Ev.neg (by omega) ?_
  have t0 := laws_toTrade_ev l0 a b (by omega)
  have e0 := laws_eqTrade_ev l0 a b (by omega)
  have m0 := laws_markTrade_ev l0 a b 1 (by omega) (by omega)
  obtain ⟨⟨g, c, bb⟩, hlen, hI, hS⟩ := BestLots_ev l0 a b (by omega)
  dsimp only at hlen
  have eg := laws_eqIntS_ev g (by omega)
  have mg := laws_markIntS_ev g 1 (by omega) (by omega)
  have hg := laws_heldIntS_ev g.length 1 (by omega) (by omega)
  refine Ev.bind t0 (Ev.bind hS (Ev.bind t0 (Ev.bind hI (Ev.bind eg (Ev.pos rfl (Ev.pos rfl ?_))))))
  refine Ev.succ ?_
  simp only [laws_FnExactBestLots.j0, bne_self_eq_false, Bool.false_eq_true, if_false]
  refine Ev.bind t0 (Ev.bind e0 (Ev.pos (by first | rfl | trivial) (Ev.bind m0 (Ev.neg (by dsimp only; omega) (Ev.bind eg (Ev.pos (by first | rfl | trivial) (Ev.pos (by first | rfl | trivial) ?_)))))))
  refine Ev.succ ?_
  simp only [laws_FnExactBestLots.j1, Bool.false_eq_true, if_false]
  refine Ev.bind mg (Ev.bind hg (Ev.neg (by omega) (Ev.pos (by first | rfl | trivial) (Ev.bind t0 (Ev.bind hI (Ev.bind eg (Ev.pos (by first | rfl | trivial) (Ev.pos (by first | rfl | trivial) ?_))))))))
  refine Ev.succ ?_
  simp only [laws_FnExactBestLots.j2, bne_self_eq_false, Bool.false_eq_true, if_false]
  exact Ev.bind hg (Ev.neg (by omega) (Ev.pos (by first | rfl | trivial) (Ev.now _)))

end Go.Proofs.Ytagkblgpaallbaa.Pure
namespace Go.Proofs.Ytagkblgpaallbaa.RowW
open Go.ChangeShapes Go.WideShapes Go.Deep Go.RowKit Go.Proofs.YtagkblgpaallbaaW.PrintWords Go.Proofs.YtagkblgpaallbaaW.PrintLast Go.Proofs.YtagkblgpaallbaaW.PrintMore Go.Proofs.Ytagkblgpaallbaa.Print
def Opens {α : Type} (P : Program) (d : Kd α) (wf : α → Prop) (t : TypeId) : Prop :=
  ∀ {H : Type} {enc : TypeId × Value → H} {W : World} {base : Nat} {spare : Nat → Bool} {held : Bool} {fuel : Nat} {cs : List Value} {x : DataW H × List MemPlace}, DataW.trod enc P W base spare held fuel t cs = some x → ∃ a, d.K W a cs ∧ wf a
theorem Opens.int {P : Program} {k : IntKind} {t : TypeId} (ht : P.underlying t = some (.int k)) : Opens P (Kd.int k) (fun n : Int => (Lit.int k n).wf = true) t := by
  intro H enc W base spare held fuel cs x h
  obtain ⟨n, rfl, _, hw⟩ := DataW.trod_int ht h
  exact ⟨n, rfl, hw⟩
theorem Opens.bool {P : Program} {t : TypeId} (ht : P.underlying t = some .bool) : Opens P Kd.bool (fun _ : Bool => True) t := by
  intro H enc W base spare held fuel cs x h
  obtain ⟨n, rfl, _⟩ := DataW.trod_bool ht h
  exact ⟨n, rfl, trivial⟩
theorem Opens.string {P : Program} {t : TypeId} (ht : P.underlying t = some .string) : Opens P Kd.string (fun s : ByteArray => s.size ≤ maxLen) t := by
  intro H enc W base spare held fuel cs x h
  obtain ⟨n, rfl, _, hw⟩ := DataW.trod_string ht h
  exact ⟨n, rfl, hw⟩
theorem pick_list {α : Type} {Q : Nat → α → Prop} (n : Nat) (h : ∀ i, i < n → ∃ a, Q i a) : ∃ xs : List α, xs.length = n ∧ ∀ i a, xs[i]? = some a → Q i a := by
  induction n with
  | zero => exact ⟨[], rfl, fun i a hh => by simp at hh⟩
  | succ n ih =>
    obtain ⟨xs, hl, hq⟩ := ih fun i hi => h i (by omega)
    obtain ⟨a, ha⟩ := h n (by omega)
    refine ⟨xs ++ [a], by simp [hl], fun i b hb => ?_⟩
    rcases Nat.lt_or_ge i xs.length with hi | hi
    · rw [List.getElem?_append_left hi] at hb; exact hq i b hb
    · rw [List.getElem?_append_right hi] at hb
      have : i = n := by
        have := (List.getElem?_eq_some_iff.1 hb).1
        simp at this; omega
      subst this
      rw [hl, Nat.sub_self] at hb
      obtain rfl : a = b := by simpa using hb
      exact ha
theorem Opens.slice {P : Program} {α : Type} {d : Kd α} {wf : α → Prop} {t e : TypeId} (ht : P.underlying t = some (.slice e)) (hc : P.cellsOf e = d.sz) (ho : Opens P d wf e) : Opens P (Kd.slice e d) (fun xs : List α => xs.length ≤ maxLen ∧ ∀ x ∈ xs, wf x) t := by
  intro H enc W base spare held fuel cs x h
  rcases open_slice ht h with ⟨rfl, _⟩ | ⟨a, len, cap, m, n, D, Pl, rfl, hb, hl, hm, hmm, _, hi⟩
  · exact ⟨[], ⟨none, 0, rfl, Nat.le_refl _, Kd.C_nil d W⟩, by simp, by simp⟩
  · have hlm : len ≤ m := by rw [hmm]; split <;> omega
    obtain ⟨xs, hlen, hxs⟩ := pick_list (Q := fun i b => (∃ c, W.cells? base (a.add (i * P.cellsOf e)) (P.cellsOf e) = some c ∧ d.K W b c) ∧ wf b) len (fun i him => by
      obtain ⟨c, h1, h2⟩ := hi i (by omega)
      obtain ⟨b, h3, h4⟩ := ho h2
      exact ⟨b, ⟨c, h1, h3⟩, h4⟩)
    have hml : maxLen = 9223372036854775807 := rfl
    refine ⟨xs, ⟨some a, cap, by rw [hlen], by omega, ⟨rfl, by omega, fun _ => ⟨a, rfl, fun j p hj => ?_⟩⟩⟩, by omega, fun p hp => ?_⟩
    · obtain ⟨⟨c, h1, h2⟩, _⟩ := hxs j p hj
      obtain ⟨_, hcl, hat⟩ := World.cells?_some h1
      refine ⟨c, d.K_len h2, h2, fun i u hu => ?_⟩
      have hic : i < c.length := (List.getElem?_eq_some_iff.1 hu).1
      rw [← hc, ← Go.Deep.add_add, hat i (by omega)]
      exact hu
    · obtain ⟨i, hi'⟩ := List.getElem?_of_mem hp
      exact (hxs i p hi').2
theorem field_some {β : Type} {ys : List β} {o : Option β} (i : Nat) (h : i < ys.length) (e : o = ys[i]?) : o = some ys[i] := e.trans (List.getElem?_eq_getElem h)
end Go.Proofs.Ytagkblgpaallbaa.RowW
