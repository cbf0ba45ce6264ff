/- No flow is more than the most, which no way makes more, and a way that is pushed makes a flow just so much more (Ford and Fulkerson), for drawn nets: no condition but the statement's own. -/
import Derived.Test.YtneojimdhnhkeaaCFnFlows0
import Derived.Test.YtneojimdhnhkeaaCFnFlows1
import Derived.Test.YtneojimdhnhkeaaCFnFlows2
set_option linter.unusedVariables false
set_option linter.unusedSimpArgs false
namespace Go.Proofs.Ytneojimdhnhkeaa.Print
open Go.RowKit Go.Proofs.YtneojimdhnhkeaaW.PrintWords Go.Proofs.YtneojimdhnhkeaaW.PrintLast Go.Proofs.YtneojimdhnhkeaaW.PrintMore
attribute [local go_sem] max2_int min2_int max_two min_two max_three min_three max_four min_four

mutual
def impl_PushWay.j0:Nat→List (List Int)→List (List Int)→List Int→Bool→Option ((List (List Int))×Int×Bool)
  |0,_,_,_,_=>none
  |k+1,x0,x1,x2,x47=>if x47=true then (some (([]:List (List Int)),0,false)) else (impl_PushWay.l0 k x0 x1 x2 (x2.length:Int) 0)
def impl_PushWay.l0:Nat→List (List Int)→List (List Int)→List Int→Int→Int→Option ((List (List Int))×Int×Bool)
  |0,_,_,_,_,_=>none
  |k+1,x0,x1,x2,x49,x50=>if x50<x49 then (if 0≤x50 then (if x50≤(x2.length:Int) then (if x50<(x2.length:Int) then ((slices_Contains_int_int.f k (x2.take (x50:Int).toNat) (rd x2 x50)).bind fun t111=>(if t111=true then (some (([]:List (List Int)),0,false)) else (if x50 > 0 then (if 0≤(wrap64 (x50 - 1)) then (if (wrap64 (x50 - 1))<(x2.length:Int) then ((impl_room.f x0 x1 (rd x2 (wrap64 (x50 - 1))) (rd x2 x50)).bind fun t114=>(if t114≤0 then (some (([]:List (List Int)),0,false)) else (impl_PushWay.l0 k x0 x1 x2 x49 (wrap64 (x50+1))))) else (none)) else (none)) else (impl_PushWay.l0 k x0 x1 x2 x49 (wrap64 (x50+1)))))) else (none)) else (none)) else (none)) else ((impl_pushed.f k x0 x1 x2).bind fun bt105=>(some (bt105.1,bt105.2,true)))
end
def impl_PushWay.f (k:Nat) (l0:List (List Int)) (l1:List (List Int)) (l2:List Int):Option ((List (List Int))×Int×Bool):=(impl_isFlowing.f k l0 l1).bind fun t101=>(if t101=true then (if (l2.length:Int)<2 then (impl_PushWay.j0 k l0 l1 l2 true) else ((impl_allWithin.f k l2 0 (wrap64 ((l0.length:Int) - 1))).bind fun t102=>(if t102=true then (if 0<(l2.length:Int) then (if (rd l2 0)=0 then (if 0≤(wrap64 ((l2.length:Int) - 1)) then (if (wrap64 ((l2.length:Int) - 1))<(l2.length:Int) then (impl_PushWay.j0 k l0 l1 l2 ((rd l2 (wrap64 ((l2.length:Int) - 1))) != (wrap64 ((l0.length:Int) - 1)))) else (none)) else (none)) else (impl_PushWay.j0 k l0 l1 l2 true)) else (none)) else (impl_PushWay.j0 k l0 l1 l2 true)))) else (impl_PushWay.j0 k l0 l1 l2 true))
set_option maxHeartbeats 8000000 in
set_option maxRecDepth 100000 in
theorem impl_PushWay.calls (k:Nat) (A0:Option Addr) (c0:Nat) (l0:List (List Int)) (A1:Option Addr) (c1:Nat) (l1:List (List Int)) (A2:Option Addr) (c2:Nat) (l2:List Int) (r1:List (List Int)) (r2:Int) (r3:Bool) (w:World) (hr0:Kd.C (Kd.slice 3 (Kd.int .i64)) w A0 l0.length l0) (hc0:l0.length≤c0) (hr1:Kd.C (Kd.slice 3 (Kd.int .i64)) w A1 l1.length l1) (hc1:l1.length≤c1) (hr2:Kd.C (Kd.int .i64) w A2 l2.length l2) (hc2:l2.length≤c2) (h:impl_PushWay.f k l0 l1 l2=some (r1,r2,r3)) :
    Calls Try.prog 25 #[.slice A0 l0.length c0,.slice A1 l1.length c1,.slice A2 l2.length c2] w fun e w'=>∃ v0_:Value,e= .returned (.tuple #[v0_,.int .i64 r2,.bool r3])∧Kd.S (Kd.slice 3 (Kd.int .i64)) 34 w' w.heap.size (fun _=>True) v0_ r1∧Below w.heap.size w w':=by
  have HR0:=aM hr0;have HC0:=aM hc0;clear hr0 hc0;have HR1:=aM hr1;have HC1:=aM hc1;clear hr1 hc1;have HR2:=aM hr2;have HC2:=aM hc2;clear hr2 hc2;have HB:=aM (Below.refl w.heap.size w);have H:((impl_isFlowing.f k l0 l1).bind fun t101=>(if t101=true then (if (l2.length:Int)<2 then (impl_PushWay.j0 k l0 l1 l2 true) else ((impl_allWithin.f k l2 0 (wrap64 ((l0.length:Int) - 1))).bind fun t102=>(if t102=true then (if 0<(l2.length:Int) then (if (rd l2 0)=0 then (if 0≤(wrap64 ((l2.length:Int) - 1)) then (if (wrap64 ((l2.length:Int) - 1))<(l2.length:Int) then (impl_PushWay.j0 k l0 l1 l2 ((rd l2 (wrap64 ((l2.length:Int) - 1))) != (wrap64 ((l0.length:Int) - 1)))) else (none)) else (none)) else (impl_PushWay.j0 k l0 l1 l2 true)) else (none)) else (impl_PushWay.j0 k l0 l1 l2 true)))) else (impl_PushWay.j0 k l0 l1 l2 true)))=some (r1,r2,r3):=h;clear h;have HC4:=aM H;clear H;go_enter Try.func25,Try.ntmps25
  go_upto_region 2 with (fail)
  repeat (go_quiet (fail);go_upto_region 2 with (fail))
  go_cut [47] (fun v47 wc=>∃ (kq:Nat) (x47_3:Bool),v47= .bool x47_3∧Aside0 (impl_PushWay.j0 kq l0 l1 l2 x47_3=some (r1,r2,r3))∧Aside0 (kq≤k)∧Aside0 (Below w.heap.size w wc))
  case first=>
   have H:=HC4.out;clear HC4;replace H:=Option.bind_eq_some_iff.mp H;obtain ⟨t101,A50,H⟩:=H;replace H:(if t101=true then (if (l2.length:Int)<2 then (impl_PushWay.j0 k l0 l1 l2 true) else ((impl_allWithin.f k l2 0 (wrap64 ((l0.length:Int) - 1))).bind fun t102=>(if t102=true then (if 0<(l2.length:Int) then (if (rd l2 0)=0 then (if 0≤(wrap64 ((l2.length:Int) - 1)) then (if (wrap64 ((l2.length:Int) - 1))<(l2.length:Int) then (impl_PushWay.j0 k l0 l1 l2 ((rd l2 (wrap64 ((l2.length:Int) - 1))) != (wrap64 ((l0.length:Int) - 1)))) else (none)) else (none)) else (impl_PushWay.j0 k l0 l1 l2 true)) else (none)) else (impl_PushWay.j0 k l0 l1 l2 true)))) else (impl_PushWay.j0 k l0 l1 l2 true))=some (r1,r2,r3):=H;have A5:=aM A50;clear A50;by_cases c6:t101=true
   ·subst c6;have H1:(if (l2.length:Int)<2 then (impl_PushWay.j0 k l0 l1 l2 true) else ((impl_allWithin.f k l2 0 (wrap64 ((l0.length:Int) - 1))).bind fun t102=>(if t102=true then (if 0<(l2.length:Int) then (if (rd l2 0)=0 then (if 0≤(wrap64 ((l2.length:Int) - 1)) then (if (wrap64 ((l2.length:Int) - 1))<(l2.length:Int) then (impl_PushWay.j0 k l0 l1 l2 ((rd l2 (wrap64 ((l2.length:Int) - 1))) != (wrap64 ((l0.length:Int) - 1)))) else (none)) else (none)) else (impl_PushWay.j0 k l0 l1 l2 true)) else (none)) else (impl_PushWay.j0 k l0 l1 l2 true))))=some (r1,r2,r3):=by rw [if_pos rfl] at H;exact H
    clear H;have H:=H1;clear H1;by_cases c7:(l2.length:Int)<2
    ·rw [if_pos c7] at H;have c7b0:decide ((l2.length:Int)<2)=true:=decide_eq_true c7;have c7b1:decide (l2.length<2)=true:=decide_eq_true (by omega);clear c7
     (first|rw [c7b0]|(simp only [i64_w,i32_w];rw [c7b0])|skip)
     have H':=aM H;clear H;go_wp2_with (first|(go_at_call 138;(with_reducible refine (impl_isFlowing.calls k _ _ l0 _ _ l1 true _ ?side1 ?side2 ?side3 ?side4 A5.out).mono ?_);(case side1=>repeat (first|exact (Kd.Ql HR0.out HB.out)|(with_reducible refine Kd.Qd ?_ _)|(with_reducible refine Kd.Qe ?_ _)|(with_reducible refine Kd.C_drew ?_)));(case side2=>exact HC0.out);(case side3=>repeat (first|exact (Kd.Ql HR1.out HB.out)|(with_reducible refine Kd.Qd ?_ _)|(with_reducible refine Kd.Qe ?_ _)|(with_reducible refine Kd.C_drew ?_)));(case side4=>exact HC1.out);rintro e w8 ⟨rfl,hb⟩;have n0_:=aM (Qi (by repeat (first|(with_reducible first|exact HB.out|apply Qb|apply Qa|apply Qc)|exact HB.out)) hb);clear HB;have HB:=n0_;clear n0_;(try clear hb);(try clear hb2);(try clear hk);(try clear hi)))
     repeat (go_quiet (first|(go_at_call 138;(with_reducible refine (impl_isFlowing.calls k _ _ l0 _ _ l1 true _ ?side1 ?side2 ?side3 ?side4 A5.out).mono ?_);(case side1=>repeat (first|exact (Kd.Ql HR0.out HB.out)|(with_reducible refine Kd.Qd ?_ _)|(with_reducible refine Kd.Qe ?_ _)|(with_reducible refine Kd.C_drew ?_)));(case side2=>exact HC0.out);(case side3=>repeat (first|exact (Kd.Ql HR1.out HB.out)|(with_reducible refine Kd.Qd ?_ _)|(with_reducible refine Kd.Qe ?_ _)|(with_reducible refine Kd.C_drew ?_)));(case side4=>exact HC1.out);rintro e w8 ⟨rfl,hb⟩;have n0_:=aM (Qi (by repeat (first|(with_reducible first|exact HB.out|apply Qb|apply Qa|apply Qc)|exact HB.out)) hb);clear HB;have HB:=n0_;clear n0_;(try clear hb);(try clear hb2);(try clear hk);(try clear hi)));try go_wp2_with (first|(go_at_call 138;(with_reducible refine (impl_isFlowing.calls k _ _ l0 _ _ l1 true _ ?side1 ?side2 ?side3 ?side4 A5.out).mono ?_);(case side1=>repeat (first|exact (Kd.Ql HR0.out HB.out)|(with_reducible refine Kd.Qd ?_ _)|(with_reducible refine Kd.Qe ?_ _)|(with_reducible refine Kd.C_drew ?_)));(case side2=>exact HC0.out);(case side3=>repeat (first|exact (Kd.Ql HR1.out HB.out)|(with_reducible refine Kd.Qd ?_ _)|(with_reducible refine Kd.Qe ?_ _)|(with_reducible refine Kd.C_drew ?_)));(case side4=>exact HC1.out);rintro e w8 ⟨rfl,hb⟩;have n0_:=aM (Qi (by repeat (first|(with_reducible first|exact HB.out|apply Qb|apply Qa|apply Qc)|exact HB.out)) hb);clear HB;have HB:=n0_;clear n0_;(try clear hb);(try clear hb2);(try clear hk);(try clear hi))))
     go_meet
     case rel=>exact ⟨_,(true),(by first|rfl|(simp;done)|(simp [*];done)),H',⟨by first|omega|exact Nat.le_refl _⟩,⟨by repeat (first|(with_reducible first|exact HB.out|apply Qb|apply Qa|apply Qc)|exact HB.out)⟩⟩
    ·rw [if_neg c7] at H;have c7b0:decide ((l2.length:Int)<2)=false:=decide_eq_false c7;have c7b1:decide (l2.length<2)=false:=decide_eq_false (by omega);clear c7
     (first|rw [c7b0]|(simp only [i64_w,i32_w];rw [c7b0])|skip)
     replace H:=Option.bind_eq_some_iff.mp H;obtain ⟨t102,A90,H⟩:=H;replace H:(if t102=true then (if 0<(l2.length:Int) then (if (rd l2 0)=0 then (if 0≤(wrap64 ((l2.length:Int) - 1)) then (if (wrap64 ((l2.length:Int) - 1))<(l2.length:Int) then (impl_PushWay.j0 k l0 l1 l2 ((rd l2 (wrap64 ((l2.length:Int) - 1))) != (wrap64 ((l0.length:Int) - 1)))) else (none)) else (none)) else (impl_PushWay.j0 k l0 l1 l2 true)) else (none)) else (impl_PushWay.j0 k l0 l1 l2 true))=some (r1,r2,r3):=H;have A9:=aM A90;clear A90;by_cases c10:t102=true
     ·subst c10;have H1:(if 0<(l2.length:Int) then (if (rd l2 0)=0 then (if 0≤(wrap64 ((l2.length:Int) - 1)) then (if (wrap64 ((l2.length:Int) - 1))<(l2.length:Int) then (impl_PushWay.j0 k l0 l1 l2 ((rd l2 (wrap64 ((l2.length:Int) - 1))) != (wrap64 ((l0.length:Int) - 1)))) else (none)) else (none)) else (impl_PushWay.j0 k l0 l1 l2 true)) else (none))=some (r1,r2,r3):=by rw [if_pos rfl] at H;exact H
      clear H;have H:=H1;clear H1;by_cases c11:0<(l2.length:Int)
      ·rw [if_pos c11] at H;have c11b0:decide (0<(l2.length:Int))=true:=decide_eq_true c11;have c11b1:decide (0<l2.length)=true:=decide_eq_true (by omega);clear c11;by_cases c12:(rd l2 0)=0
       ·rw [if_pos c12] at H;have c12b0:((rd l2 0) == 0)=true:=beq_iff_eq.mpr c12;have c12b1:((rd l2 0) != 0)=false:=bne_eq_false_iff_eq.mpr c12;clear c12;obtain ⟨ji13,hji13⟩:∃ j_:Int,(wrap64 ((l2.length:Int) - 1))=j_:=⟨_,rfl⟩;replace H:(if 0≤(ji13) then (if (ji13)<(l2.length:Int) then (impl_PushWay.j0 k l0 l1 l2 ((rd l2 (ji13)) != (wrap64 ((l0.length:Int) - 1)))) else (none)) else (none))=some (r1,r2,r3):=by first|(rw [hji13] at H;exact H)|(simp only [hji13] at H ⊢;exact H)
        (try rw [hji13] at A5);(try rw [hji13] at A9);have hji13w:(IntKind.i64.wrap ((l2.length:Int) - 1))=ji13:=(i64_w _).trans hji13;by_cases c14:0≤(ji13)
        ·rw [if_pos c14] at H;have c14b0:decide (0≤(ji13))=true:=decide_eq_true c14;clear c14;by_cases c15:(ji13)<(l2.length:Int)
         ·rw [if_pos c15] at H;have c15b0:decide ((ji13)<(l2.length:Int))=true:=decide_eq_true c15;clear c15;have H':=aM H;clear H;go_wp2_with (first|(go_at_call 138;(with_reducible refine (impl_isFlowing.calls k _ _ l0 _ _ l1 true _ ?side1 ?side2 ?side3 ?side4 A5.out).mono ?_);(case side1=>repeat (first|exact (Kd.Ql HR0.out HB.out)|(with_reducible refine Kd.Qd ?_ _)|(with_reducible refine Kd.Qe ?_ _)|(with_reducible refine Kd.C_drew ?_)));(case side2=>exact HC0.out);(case side3=>repeat (first|exact (Kd.Ql HR1.out HB.out)|(with_reducible refine Kd.Qd ?_ _)|(with_reducible refine Kd.Qe ?_ _)|(with_reducible refine Kd.C_drew ?_)));(case side4=>exact HC1.out);rintro e w16 ⟨rfl,hb⟩;have n0_:=aM (Qi (by repeat (first|(with_reducible first|exact HB.out|apply Qb|apply Qa|apply Qc)|exact HB.out)) hb);clear HB;have HB:=n0_;clear n0_;(try clear hb);(try clear hb2);(try clear hk);(try clear hi))|(go_at_call 149;(with_reducible refine (impl_allWithin.calls k _ _ l2 0 (wrap64 ((l0.length:Int) - 1)) true _ ?side1 ?side2 A9.out).mono ?_);(case side1=>repeat (first|exact (Kd.Ql HR2.out HB.out)|(with_reducible refine Kd.Qd ?_ _)|(with_reducible refine Kd.Qe ?_ _)|(with_reducible refine Kd.C_drew ?_)));(case side2=>exact HC2.out);rintro e w17 ⟨rfl,hb⟩;have n0_:=aM (Qi (by repeat (first|(with_reducible first|exact HB.out|apply Qb|apply Qa|apply Qc)|exact HB.out)) hb);clear HB;have HB:=n0_;clear n0_;(try clear hb);(try clear hb2);(try clear hk);(try clear hi);have p103:0≤(0:Int):=(by omega);have q103:0<(l2.length:Int):=of_decide_eq_true (by first|(with_reducible assumption)|assumption);obtain ⟨ad103,e103,hx103_0⟩:=Kd.at_int HR2.out 0 p103 q103;cases e103;have qi103:(0<l2.length)=True:=eq_true (by omega);(try rw [show ((0:Int)).toNat=0 from rfl] at hx103_0);(try rw [Addr.add_zero'] at hx103_0);replace hx103_0:=(HB.out.cell (aI w _ hx103_0)).trans hx103_0;replace p103:=eq_true p103;replace q103:=eq_true q103;have p104:0≤((ji13):Int):=of_decide_eq_true (by first|(with_reducible assumption)|assumption);have q104:(ji13)<(l2.length:Int):=of_decide_eq_true (by first|(with_reducible assumption)|assumption);obtain ⟨ad104,e104,hx104_0⟩:=Kd.at_int HR2.out (ji13) p104 q104;obtain rfl:ad103=ad104:=(by injection e104);replace hx104_0:=(HB.out.cell (aI w _ hx104_0)).trans hx104_0;replace p104:=eq_true p104;replace q104:=eq_true q104))
          repeat (go_quiet (first|(go_at_call 138;(with_reducible refine (impl_isFlowing.calls k _ _ l0 _ _ l1 true _ ?side1 ?side2 ?side3 ?side4 A5.out).mono ?_);(case side1=>repeat (first|exact (Kd.Ql HR0.out HB.out)|(with_reducible refine Kd.Qd ?_ _)|(with_reducible refine Kd.Qe ?_ _)|(with_reducible refine Kd.C_drew ?_)));(case side2=>exact HC0.out);(case side3=>repeat (first|exact (Kd.Ql HR1.out HB.out)|(with_reducible refine Kd.Qd ?_ _)|(with_reducible refine Kd.Qe ?_ _)|(with_reducible refine Kd.C_drew ?_)));(case side4=>exact HC1.out);rintro e w16 ⟨rfl,hb⟩;have n0_:=aM (Qi (by repeat (first|(with_reducible first|exact HB.out|apply Qb|apply Qa|apply Qc)|exact HB.out)) hb);clear HB;have HB:=n0_;clear n0_;(try clear hb);(try clear hb2);(try clear hk);(try clear hi))|(go_at_call 149;(with_reducible refine (impl_allWithin.calls k _ _ l2 0 (wrap64 ((l0.length:Int) - 1)) true _ ?side1 ?side2 A9.out).mono ?_);(case side1=>repeat (first|exact (Kd.Ql HR2.out HB.out)|(with_reducible refine Kd.Qd ?_ _)|(with_reducible refine Kd.Qe ?_ _)|(with_reducible refine Kd.C_drew ?_)));(case side2=>exact HC2.out);rintro e w17 ⟨rfl,hb⟩;have n0_:=aM (Qi (by repeat (first|(with_reducible first|exact HB.out|apply Qb|apply Qa|apply Qc)|exact HB.out)) hb);clear HB;have HB:=n0_;clear n0_;(try clear hb);(try clear hb2);(try clear hk);(try clear hi);have p103:0≤(0:Int):=(by omega);have q103:0<(l2.length:Int):=of_decide_eq_true (by first|(with_reducible assumption)|assumption);obtain ⟨ad103,e103,hx103_0⟩:=Kd.at_int HR2.out 0 p103 q103;cases e103;have qi103:(0<l2.length)=True:=eq_true (by omega);(try rw [show ((0:Int)).toNat=0 from rfl] at hx103_0);(try rw [Addr.add_zero'] at hx103_0);replace hx103_0:=(HB.out.cell (aI w _ hx103_0)).trans hx103_0;replace p103:=eq_true p103;replace q103:=eq_true q103;have p104:0≤((ji13):Int):=of_decide_eq_true (by first|(with_reducible assumption)|assumption);have q104:(ji13)<(l2.length:Int):=of_decide_eq_true (by first|(with_reducible assumption)|assumption);obtain ⟨ad104,e104,hx104_0⟩:=Kd.at_int HR2.out (ji13) p104 q104;obtain rfl:ad103=ad104:=(by injection e104);replace hx104_0:=(HB.out.cell (aI w _ hx104_0)).trans hx104_0;replace p104:=eq_true p104;replace q104:=eq_true q104));try go_wp2_with (first|(go_at_call 138;(with_reducible refine (impl_isFlowing.calls k _ _ l0 _ _ l1 true _ ?side1 ?side2 ?side3 ?side4 A5.out).mono ?_);(case side1=>repeat (first|exact (Kd.Ql HR0.out HB.out)|(with_reducible refine Kd.Qd ?_ _)|(with_reducible refine Kd.Qe ?_ _)|(with_reducible refine Kd.C_drew ?_)));(case side2=>exact HC0.out);(case side3=>repeat (first|exact (Kd.Ql HR1.out HB.out)|(with_reducible refine Kd.Qd ?_ _)|(with_reducible refine Kd.Qe ?_ _)|(with_reducible refine Kd.C_drew ?_)));(case side4=>exact HC1.out);rintro e w16 ⟨rfl,hb⟩;have n0_:=aM (Qi (by repeat (first|(with_reducible first|exact HB.out|apply Qb|apply Qa|apply Qc)|exact HB.out)) hb);clear HB;have HB:=n0_;clear n0_;(try clear hb);(try clear hb2);(try clear hk);(try clear hi))|(go_at_call 149;(with_reducible refine (impl_allWithin.calls k _ _ l2 0 (wrap64 ((l0.length:Int) - 1)) true _ ?side1 ?side2 A9.out).mono ?_);(case side1=>repeat (first|exact (Kd.Ql HR2.out HB.out)|(with_reducible refine Kd.Qd ?_ _)|(with_reducible refine Kd.Qe ?_ _)|(with_reducible refine Kd.C_drew ?_)));(case side2=>exact HC2.out);rintro e w17 ⟨rfl,hb⟩;have n0_:=aM (Qi (by repeat (first|(with_reducible first|exact HB.out|apply Qb|apply Qa|apply Qc)|exact HB.out)) hb);clear HB;have HB:=n0_;clear n0_;(try clear hb);(try clear hb2);(try clear hk);(try clear hi);have p103:0≤(0:Int):=(by omega);have q103:0<(l2.length:Int):=of_decide_eq_true (by first|(with_reducible assumption)|assumption);obtain ⟨ad103,e103,hx103_0⟩:=Kd.at_int HR2.out 0 p103 q103;cases e103;have qi103:(0<l2.length)=True:=eq_true (by omega);(try rw [show ((0:Int)).toNat=0 from rfl] at hx103_0);(try rw [Addr.add_zero'] at hx103_0);replace hx103_0:=(HB.out.cell (aI w _ hx103_0)).trans hx103_0;replace p103:=eq_true p103;replace q103:=eq_true q103;have p104:0≤((ji13):Int):=of_decide_eq_true (by first|(with_reducible assumption)|assumption);have q104:(ji13)<(l2.length:Int):=of_decide_eq_true (by first|(with_reducible assumption)|assumption);obtain ⟨ad104,e104,hx104_0⟩:=Kd.at_int HR2.out (ji13) p104 q104;obtain rfl:ad103=ad104:=(by injection e104);replace hx104_0:=(HB.out.cell (aI w _ hx104_0)).trans hx104_0;replace p104:=eq_true p104;replace q104:=eq_true q104)))
          go_meet
          case rel=>exact ⟨_,(((rd l2 (ji13)) != (wrap64 ((l0.length:Int) - 1)))),(by first|rfl|(simp;done)|(simp only [←hji13] <;> (first|rfl|simp))|(simp [*];done)),H',⟨by first|omega|exact Nat.le_refl _⟩,⟨by repeat (first|(with_reducible first|exact HB.out|apply Qb|apply Qa|apply Qc)|exact HB.out)⟩⟩
         ·rw [if_neg c15] at H;exact absurd H (by simp)
        ·rw [if_neg c14] at H;exact absurd H (by simp)
       ·rw [if_neg c12] at H;have c12b0:((rd l2 0) == 0)=false:=beq_eq_false_iff_ne.mpr c12;have c12b1:((rd l2 0) != 0)=true:=bne_iff_ne.mpr c12;have H':=aM H;clear H;go_wp2_with (first|(go_at_call 138;(with_reducible refine (impl_isFlowing.calls k _ _ l0 _ _ l1 true _ ?side1 ?side2 ?side3 ?side4 A5.out).mono ?_);(case side1=>repeat (first|exact (Kd.Ql HR0.out HB.out)|(with_reducible refine Kd.Qd ?_ _)|(with_reducible refine Kd.Qe ?_ _)|(with_reducible refine Kd.C_drew ?_)));(case side2=>exact HC0.out);(case side3=>repeat (first|exact (Kd.Ql HR1.out HB.out)|(with_reducible refine Kd.Qd ?_ _)|(with_reducible refine Kd.Qe ?_ _)|(with_reducible refine Kd.C_drew ?_)));(case side4=>exact HC1.out);rintro e w18 ⟨rfl,hb⟩;have n0_:=aM (Qi (by repeat (first|(with_reducible first|exact HB.out|apply Qb|apply Qa|apply Qc)|exact HB.out)) hb);clear HB;have HB:=n0_;clear n0_;(try clear hb);(try clear hb2);(try clear hk);(try clear hi))|(go_at_call 149;(with_reducible refine (impl_allWithin.calls k _ _ l2 0 (wrap64 ((l0.length:Int) - 1)) true _ ?side1 ?side2 A9.out).mono ?_);(case side1=>repeat (first|exact (Kd.Ql HR2.out HB.out)|(with_reducible refine Kd.Qd ?_ _)|(with_reducible refine Kd.Qe ?_ _)|(with_reducible refine Kd.C_drew ?_)));(case side2=>exact HC2.out);rintro e w19 ⟨rfl,hb⟩;have n0_:=aM (Qi (by repeat (first|(with_reducible first|exact HB.out|apply Qb|apply Qa|apply Qc)|exact HB.out)) hb);clear HB;have HB:=n0_;clear n0_;(try clear hb);(try clear hb2);(try clear hk);(try clear hi);have p103:0≤(0:Int):=(by omega);have q103:0<(l2.length:Int):=of_decide_eq_true (by first|(with_reducible assumption)|assumption);obtain ⟨ad103,e103,hx103_0⟩:=Kd.at_int HR2.out 0 p103 q103;cases e103;have qi103:(0<l2.length)=True:=eq_true (by omega);(try rw [show ((0:Int)).toNat=0 from rfl] at hx103_0);(try rw [Addr.add_zero'] at hx103_0);replace hx103_0:=(HB.out.cell (aI w _ hx103_0)).trans hx103_0;replace p103:=eq_true p103;replace q103:=eq_true q103))
        repeat (go_quiet (first|(go_at_call 138;(with_reducible refine (impl_isFlowing.calls k _ _ l0 _ _ l1 true _ ?side1 ?side2 ?side3 ?side4 A5.out).mono ?_);(case side1=>repeat (first|exact (Kd.Ql HR0.out HB.out)|(with_reducible refine Kd.Qd ?_ _)|(with_reducible refine Kd.Qe ?_ _)|(with_reducible refine Kd.C_drew ?_)));(case side2=>exact HC0.out);(case side3=>repeat (first|exact (Kd.Ql HR1.out HB.out)|(with_reducible refine Kd.Qd ?_ _)|(with_reducible refine Kd.Qe ?_ _)|(with_reducible refine Kd.C_drew ?_)));(case side4=>exact HC1.out);rintro e w18 ⟨rfl,hb⟩;have n0_:=aM (Qi (by repeat (first|(with_reducible first|exact HB.out|apply Qb|apply Qa|apply Qc)|exact HB.out)) hb);clear HB;have HB:=n0_;clear n0_;(try clear hb);(try clear hb2);(try clear hk);(try clear hi))|(go_at_call 149;(with_reducible refine (impl_allWithin.calls k _ _ l2 0 (wrap64 ((l0.length:Int) - 1)) true _ ?side1 ?side2 A9.out).mono ?_);(case side1=>repeat (first|exact (Kd.Ql HR2.out HB.out)|(with_reducible refine Kd.Qd ?_ _)|(with_reducible refine Kd.Qe ?_ _)|(with_reducible refine Kd.C_drew ?_)));(case side2=>exact HC2.out);rintro e w19 ⟨rfl,hb⟩;have n0_:=aM (Qi (by repeat (first|(with_reducible first|exact HB.out|apply Qb|apply Qa|apply Qc)|exact HB.out)) hb);clear HB;have HB:=n0_;clear n0_;(try clear hb);(try clear hb2);(try clear hk);(try clear hi);have p103:0≤(0:Int):=(by omega);have q103:0<(l2.length:Int):=of_decide_eq_true (by first|(with_reducible assumption)|assumption);obtain ⟨ad103,e103,hx103_0⟩:=Kd.at_int HR2.out 0 p103 q103;cases e103;have qi103:(0<l2.length)=True:=eq_true (by omega);(try rw [show ((0:Int)).toNat=0 from rfl] at hx103_0);(try rw [Addr.add_zero'] at hx103_0);replace hx103_0:=(HB.out.cell (aI w _ hx103_0)).trans hx103_0;replace p103:=eq_true p103;replace q103:=eq_true q103));try go_wp2_with (first|(go_at_call 138;(with_reducible refine (impl_isFlowing.calls k _ _ l0 _ _ l1 true _ ?side1 ?side2 ?side3 ?side4 A5.out).mono ?_);(case side1=>repeat (first|exact (Kd.Ql HR0.out HB.out)|(with_reducible refine Kd.Qd ?_ _)|(with_reducible refine Kd.Qe ?_ _)|(with_reducible refine Kd.C_drew ?_)));(case side2=>exact HC0.out);(case side3=>repeat (first|exact (Kd.Ql HR1.out HB.out)|(with_reducible refine Kd.Qd ?_ _)|(with_reducible refine Kd.Qe ?_ _)|(with_reducible refine Kd.C_drew ?_)));(case side4=>exact HC1.out);rintro e w18 ⟨rfl,hb⟩;have n0_:=aM (Qi (by repeat (first|(with_reducible first|exact HB.out|apply Qb|apply Qa|apply Qc)|exact HB.out)) hb);clear HB;have HB:=n0_;clear n0_;(try clear hb);(try clear hb2);(try clear hk);(try clear hi))|(go_at_call 149;(with_reducible refine (impl_allWithin.calls k _ _ l2 0 (wrap64 ((l0.length:Int) - 1)) true _ ?side1 ?side2 A9.out).mono ?_);(case side1=>repeat (first|exact (Kd.Ql HR2.out HB.out)|(with_reducible refine Kd.Qd ?_ _)|(with_reducible refine Kd.Qe ?_ _)|(with_reducible refine Kd.C_drew ?_)));(case side2=>exact HC2.out);rintro e w19 ⟨rfl,hb⟩;have n0_:=aM (Qi (by repeat (first|(with_reducible first|exact HB.out|apply Qb|apply Qa|apply Qc)|exact HB.out)) hb);clear HB;have HB:=n0_;clear n0_;(try clear hb);(try clear hb2);(try clear hk);(try clear hi);have p103:0≤(0:Int):=(by omega);have q103:0<(l2.length:Int):=of_decide_eq_true (by first|(with_reducible assumption)|assumption);obtain ⟨ad103,e103,hx103_0⟩:=Kd.at_int HR2.out 0 p103 q103;cases e103;have qi103:(0<l2.length)=True:=eq_true (by omega);(try rw [show ((0:Int)).toNat=0 from rfl] at hx103_0);(try rw [Addr.add_zero'] at hx103_0);replace hx103_0:=(HB.out.cell (aI w _ hx103_0)).trans hx103_0;replace p103:=eq_true p103;replace q103:=eq_true q103)))
        go_meet
        case rel=>exact ⟨_,(true),(by first|rfl|(simp;done)|(simp [*];done)),H',⟨by first|omega|exact Nat.le_refl _⟩,⟨by repeat (first|(with_reducible first|exact HB.out|apply Qb|apply Qa|apply Qc)|exact HB.out)⟩⟩
      ·rw [if_neg c11] at H;exact absurd H (by simp)
     ·replace c10:=Bool.eq_false_iff.mpr c10;subst c10;have H1:(impl_PushWay.j0 k l0 l1 l2 true)=some (r1,r2,r3):=by rw [if_neg (show ¬ (false=true) by decide)] at H;exact H
      clear H;have H:=H1;clear H1;have H':=aM H;clear H;go_wp2_with (first|(go_at_call 138;(with_reducible refine (impl_isFlowing.calls k _ _ l0 _ _ l1 true _ ?side1 ?side2 ?side3 ?side4 A5.out).mono ?_);(case side1=>repeat (first|exact (Kd.Ql HR0.out HB.out)|(with_reducible refine Kd.Qd ?_ _)|(with_reducible refine Kd.Qe ?_ _)|(with_reducible refine Kd.C_drew ?_)));(case side2=>exact HC0.out);(case side3=>repeat (first|exact (Kd.Ql HR1.out HB.out)|(with_reducible refine Kd.Qd ?_ _)|(with_reducible refine Kd.Qe ?_ _)|(with_reducible refine Kd.C_drew ?_)));(case side4=>exact HC1.out);rintro e w20 ⟨rfl,hb⟩;have n0_:=aM (Qi (by repeat (first|(with_reducible first|exact HB.out|apply Qb|apply Qa|apply Qc)|exact HB.out)) hb);clear HB;have HB:=n0_;clear n0_;(try clear hb);(try clear hb2);(try clear hk);(try clear hi))|(go_at_call 149;(with_reducible refine (impl_allWithin.calls k _ _ l2 0 (wrap64 ((l0.length:Int) - 1)) false _ ?side1 ?side2 A9.out).mono ?_);(case side1=>repeat (first|exact (Kd.Ql HR2.out HB.out)|(with_reducible refine Kd.Qd ?_ _)|(with_reducible refine Kd.Qe ?_ _)|(with_reducible refine Kd.C_drew ?_)));(case side2=>exact HC2.out);rintro e w21 ⟨rfl,hb⟩;have n0_:=aM (Qi (by repeat (first|(with_reducible first|exact HB.out|apply Qb|apply Qa|apply Qc)|exact HB.out)) hb);clear HB;have HB:=n0_;clear n0_;(try clear hb);(try clear hb2);(try clear hk);(try clear hi)))
      repeat (go_quiet (first|(go_at_call 138;(with_reducible refine (impl_isFlowing.calls k _ _ l0 _ _ l1 true _ ?side1 ?side2 ?side3 ?side4 A5.out).mono ?_);(case side1=>repeat (first|exact (Kd.Ql HR0.out HB.out)|(with_reducible refine Kd.Qd ?_ _)|(with_reducible refine Kd.Qe ?_ _)|(with_reducible refine Kd.C_drew ?_)));(case side2=>exact HC0.out);(case side3=>repeat (first|exact (Kd.Ql HR1.out HB.out)|(with_reducible refine Kd.Qd ?_ _)|(with_reducible refine Kd.Qe ?_ _)|(with_reducible refine Kd.C_drew ?_)));(case side4=>exact HC1.out);rintro e w20 ⟨rfl,hb⟩;have n0_:=aM (Qi (by repeat (first|(with_reducible first|exact HB.out|apply Qb|apply Qa|apply Qc)|exact HB.out)) hb);clear HB;have HB:=n0_;clear n0_;(try clear hb);(try clear hb2);(try clear hk);(try clear hi))|(go_at_call 149;(with_reducible refine (impl_allWithin.calls k _ _ l2 0 (wrap64 ((l0.length:Int) - 1)) false _ ?side1 ?side2 A9.out).mono ?_);(case side1=>repeat (first|exact (Kd.Ql HR2.out HB.out)|(with_reducible refine Kd.Qd ?_ _)|(with_reducible refine Kd.Qe ?_ _)|(with_reducible refine Kd.C_drew ?_)));(case side2=>exact HC2.out);rintro e w21 ⟨rfl,hb⟩;have n0_:=aM (Qi (by repeat (first|(with_reducible first|exact HB.out|apply Qb|apply Qa|apply Qc)|exact HB.out)) hb);clear HB;have HB:=n0_;clear n0_;(try clear hb);(try clear hb2);(try clear hk);(try clear hi)));try go_wp2_with (first|(go_at_call 138;(with_reducible refine (impl_isFlowing.calls k _ _ l0 _ _ l1 true _ ?side1 ?side2 ?side3 ?side4 A5.out).mono ?_);(case side1=>repeat (first|exact (Kd.Ql HR0.out HB.out)|(with_reducible refine Kd.Qd ?_ _)|(with_reducible refine Kd.Qe ?_ _)|(with_reducible refine Kd.C_drew ?_)));(case side2=>exact HC0.out);(case side3=>repeat (first|exact (Kd.Ql HR1.out HB.out)|(with_reducible refine Kd.Qd ?_ _)|(with_reducible refine Kd.Qe ?_ _)|(with_reducible refine Kd.C_drew ?_)));(case side4=>exact HC1.out);rintro e w20 ⟨rfl,hb⟩;have n0_:=aM (Qi (by repeat (first|(with_reducible first|exact HB.out|apply Qb|apply Qa|apply Qc)|exact HB.out)) hb);clear HB;have HB:=n0_;clear n0_;(try clear hb);(try clear hb2);(try clear hk);(try clear hi))|(go_at_call 149;(with_reducible refine (impl_allWithin.calls k _ _ l2 0 (wrap64 ((l0.length:Int) - 1)) false _ ?side1 ?side2 A9.out).mono ?_);(case side1=>repeat (first|exact (Kd.Ql HR2.out HB.out)|(with_reducible refine Kd.Qd ?_ _)|(with_reducible refine Kd.Qe ?_ _)|(with_reducible refine Kd.C_drew ?_)));(case side2=>exact HC2.out);rintro e w21 ⟨rfl,hb⟩;have n0_:=aM (Qi (by repeat (first|(with_reducible first|exact HB.out|apply Qb|apply Qa|apply Qc)|exact HB.out)) hb);clear HB;have HB:=n0_;clear n0_;(try clear hb);(try clear hb2);(try clear hk);(try clear hi))))
      go_meet
      case rel=>exact ⟨_,(true),(by first|rfl|(simp;done)|(simp [*];done)),H',⟨by first|omega|exact Nat.le_refl _⟩,⟨by repeat (first|(with_reducible first|exact HB.out|apply Qb|apply Qa|apply Qc)|exact HB.out)⟩⟩
   ·replace c6:=Bool.eq_false_iff.mpr c6;subst c6;have H1:(impl_PushWay.j0 k l0 l1 l2 true)=some (r1,r2,r3):=by rw [if_neg (show ¬ (false=true) by decide)] at H;exact H
    clear H;have H:=H1;clear H1;have H':=aM H;clear H;go_wp2_with (first|(go_at_call 138;(with_reducible refine (impl_isFlowing.calls k _ _ l0 _ _ l1 false _ ?side1 ?side2 ?side3 ?side4 A5.out).mono ?_);(case side1=>repeat (first|exact (Kd.Ql HR0.out HB.out)|(with_reducible refine Kd.Qd ?_ _)|(with_reducible refine Kd.Qe ?_ _)|(with_reducible refine Kd.C_drew ?_)));(case side2=>exact HC0.out);(case side3=>repeat (first|exact (Kd.Ql HR1.out HB.out)|(with_reducible refine Kd.Qd ?_ _)|(with_reducible refine Kd.Qe ?_ _)|(with_reducible refine Kd.C_drew ?_)));(case side4=>exact HC1.out);rintro e w22 ⟨rfl,hb⟩;have n0_:=aM (Qi (by repeat (first|(with_reducible first|exact HB.out|apply Qb|apply Qa|apply Qc)|exact HB.out)) hb);clear HB;have HB:=n0_;clear n0_;(try clear hb);(try clear hb2);(try clear hk);(try clear hi)))
    repeat (go_quiet (first|(go_at_call 138;(with_reducible refine (impl_isFlowing.calls k _ _ l0 _ _ l1 false _ ?side1 ?side2 ?side3 ?side4 A5.out).mono ?_);(case side1=>repeat (first|exact (Kd.Ql HR0.out HB.out)|(with_reducible refine Kd.Qd ?_ _)|(with_reducible refine Kd.Qe ?_ _)|(with_reducible refine Kd.C_drew ?_)));(case side2=>exact HC0.out);(case side3=>repeat (first|exact (Kd.Ql HR1.out HB.out)|(with_reducible refine Kd.Qd ?_ _)|(with_reducible refine Kd.Qe ?_ _)|(with_reducible refine Kd.C_drew ?_)));(case side4=>exact HC1.out);rintro e w22 ⟨rfl,hb⟩;have n0_:=aM (Qi (by repeat (first|(with_reducible first|exact HB.out|apply Qb|apply Qa|apply Qc)|exact HB.out)) hb);clear HB;have HB:=n0_;clear n0_;(try clear hb);(try clear hb2);(try clear hk);(try clear hi)));try go_wp2_with (first|(go_at_call 138;(with_reducible refine (impl_isFlowing.calls k _ _ l0 _ _ l1 false _ ?side1 ?side2 ?side3 ?side4 A5.out).mono ?_);(case side1=>repeat (first|exact (Kd.Ql HR0.out HB.out)|(with_reducible refine Kd.Qd ?_ _)|(with_reducible refine Kd.Qe ?_ _)|(with_reducible refine Kd.C_drew ?_)));(case side2=>exact HC0.out);(case side3=>repeat (first|exact (Kd.Ql HR1.out HB.out)|(with_reducible refine Kd.Qd ?_ _)|(with_reducible refine Kd.Qe ?_ _)|(with_reducible refine Kd.C_drew ?_)));(case side4=>exact HC1.out);rintro e w22 ⟨rfl,hb⟩;have n0_:=aM (Qi (by repeat (first|(with_reducible first|exact HB.out|apply Qb|apply Qa|apply Qc)|exact HB.out)) hb);clear HB;have HB:=n0_;clear n0_;(try clear hb);(try clear hb2);(try clear hk);(try clear hi))))
    go_meet
    case rel=>exact ⟨_,(true),(by first|rfl|(simp;done)|(simp [*];done)),H',⟨by first|omega|exact Nat.le_refl _⟩,⟨by repeat (first|(with_reducible first|exact HB.out|apply Qb|apply Qa|apply Qc)|exact HB.out)⟩⟩
  case rest=>
   clear HC4;(try clear c1);(try clear p1);(try clear q1);(try clear hx1);(try clear qi1);(try clear c2);(try clear p2);(try clear c6);(try clear p6);(try clear c7);(try clear c7b0);(try clear c7b1);(try clear c10);(try clear p10);(try clear q10);(try clear hx10);(try clear qi10);(try clear c11);(try clear c11b0);(try clear c11b1);(try clear c12);(try clear c12b0);(try clear c12b1);(try clear c14);(try clear c14b0);(try clear c15);(try clear c15b0);(try clear hx103_0);(try clear hx104_0);(try clear p103);(try clear p104);(try clear q103);(try clear q104);obtain ⟨kq,x47_3,rfl,HA,HJ3,HB⟩:=hcut
   cases kq with
   |zero=>exact absurd HA.out (by simp [impl_PushWay.j0])
   |succ kj3=>
    have H:=HA.out;clear HA;simp only [impl_PushWay.j0] at H;by_cases c23:x47_3=true
    ·subst c23;have H1:(some (([]:List (List Int)),0,false))=some (r1,r2,r3):=by rw [if_pos rfl] at H;exact H
     clear H;have H:=H1;clear H1;simp only [Option.some.injEq,Prod.mk.injEq] at H;obtain ⟨rfl,rfl,rfl⟩:=H;go_wp2
     repeat (go_quiet (fail);try go_wp2)
     go_ret3
     exact ⟨_,by first|rfl|(simp [errW_none,errW_some] <;> rfl)|(simp [*,errW_none,errW_some] <;> rfl),by first|exact Kd.S_nil _ _ _ _ _|exact Kd.N_nil _ _ _ _ _|exact Kd.V_nil _ _ _ _ _|exact Kd.Q_nil _ _ _ _ _|exact Kd.R_nil _ _ _ _ _,by repeat (first|(with_reducible first|exact HB.out|apply Qb|apply Qa|apply Qc)|exact HB.out)⟩
    ·replace c23:=Bool.eq_false_iff.mpr c23;subst c23;have H1:(impl_PushWay.l0 kj3 l0 l1 l2 (l2.length:Int) 0)=some (r1,r2,r3):=by rw [if_neg (show ¬ (false=true) by decide)] at H;exact H
     clear H;have H:=H1;clear H1;have H':=aM H;clear H;go_wp2
     repeat (go_quiet (fail);try go_wp2)
     go_loopg [50] kj3 (fun kq v50 w'=>∃ (x50_2:Int),v50= .int .i64 x50_2∧Aside0 (impl_PushWay.l0 kq l0 l1 l2 (l2.length:Int) x50_2=some (r1,r2,r3))∧Aside0 (kq≤kj3)∧Aside0 (Below w.heap.size w w'))
     case atStart=>exact ⟨(0),(by first|rfl|(simp;done)|(simp [*];done)),H',⟨Nat.le_refl _⟩,⟨by repeat (first|(with_reducible first|exact HB.out|apply Qb|apply Qa|apply Qc)|exact HB.out)⟩⟩
     case round=>
      clear H';(try clear c1);(try clear p1);(try clear q1);(try clear hx1);(try clear qi1);(try clear c2);(try clear p2);(try clear c6);(try clear p6);(try clear c7);(try clear c7b0);(try clear c7b1);(try clear c10);(try clear p10);(try clear q10);(try clear hx10);(try clear qi10);(try clear c11);(try clear c11b0);(try clear c11b1);(try clear c12);(try clear c12b0);(try clear c12b1);(try clear c14);(try clear c14b0);(try clear c15);(try clear c15b0);(try clear c23);(try clear hx103_0);(try clear hx104_0);(try clear p1);(try clear p10);(try clear p103);(try clear p104);(try clear p2);(try clear p6);(try clear q1);(try clear q10);(try clear q103);(try clear q104);obtain ⟨x50_2,rfl,HA,HK2,HB⟩:=hrel
      cases gk with
      |zero=>exact absurd HA.out (by simp [impl_PushWay.l0])
      |succ k2=>
       have H:=HA.out;clear HA;simp only [impl_PushWay.l0] at H;by_cases c24:x50_2<(l2.length:Int)
       ·rw [if_pos c24] at H;have c24b0:decide (x50_2<(l2.length:Int))=true:=decide_eq_true c24;clear c24;by_cases c25:0≤x50_2
        ·rw [if_pos c25] at H;have c25b0:=eq_true c25;have c25b1:decide (0≤x50_2)=true:=decide_eq_true c25;clear c25;by_cases c26:x50_2≤(l2.length:Int)
         ·rw [if_pos c26] at H;have c26b0:=eq_true c26;have c26b1:decide (x50_2≤(l2.length:Int))=true:=decide_eq_true c26;clear c26;by_cases c27:x50_2<(l2.length:Int)
          ·rw [if_pos c27] at H;have c27b0:decide (x50_2<(l2.length:Int))=true:=decide_eq_true c27;clear c27;replace H:=Option.bind_eq_some_iff.mp H;obtain ⟨t111,A280,H⟩:=H;replace H:(if t111=true then (some (([]:List (List Int)),0,false)) else (if x50_2 > 0 then (if 0≤(wrap64 (x50_2 - 1)) then (if (wrap64 (x50_2 - 1))<(l2.length:Int) then ((impl_room.f l0 l1 (rd l2 (wrap64 (x50_2 - 1))) (rd l2 x50_2)).bind fun t114=>(if t114≤0 then (some (([]:List (List Int)),0,false)) else (impl_PushWay.l0 k2 l0 l1 l2 (l2.length:Int) (wrap64 (x50_2+1))))) else (none)) else (none)) else (impl_PushWay.l0 k2 l0 l1 l2 (l2.length:Int) (wrap64 (x50_2+1)))))=some (r1,r2,r3):=H;have A28:=aM A280;clear A280;by_cases c29:t111=true
           ·subst c29;have H1:(some (([]:List (List Int)),0,false))=some (r1,r2,r3):=by rw [if_pos rfl] at H;exact H
            clear H;have H:=H1;clear H1;simp only [Option.some.injEq,Prod.mk.injEq] at H;obtain ⟨rfl,rfl,rfl⟩:=H;obtain ⟨i030,hi030,_,hsz30,_⟩:=info_parts info3;obtain ⟨hcut30,hA30,hC30⟩:=print_take_of (P:=Try.prog) (Value.int .i64) 0 34 3 .i64 Try.underlying34 hi030 hsz30 A2 c2 l2 x50_2 (of_decide_eq_true (by first|(with_reducible assumption)|assumption)) (of_decide_eq_true (by first|(with_reducible assumption)|assumption)) HC2.out;have HR109:=aM (Kd.C_of_reads (h1:=fun _=>rfl) (hA30 _ (Kd.reads_of_C HR2.out)));have HC109:=aM hC30;clear hA30 hC30 hi030 hsz30;have p110:0≤(x50_2:Int):=of_decide_eq_true (by first|(with_reducible assumption)|assumption);have q110:x50_2<(l2.length:Int):=of_decide_eq_true (by first|(with_reducible assumption)|assumption);obtain ⟨ad110,e110,hx110_0⟩:=Kd.at_int HR2.out x50_2 p110 q110
            cases e110
            replace hx110_0:=(HB.out.cell (aI w _ hx110_0)).trans hx110_0;replace p110:=eq_true p110;replace q110:=eq_true q110;go_wp2_with (first|(go_at_call 150;refine calls_of_args (args':=#[.slice (some ad110) (l2.take (x50_2:Int).toNat).length c2,.int .i64 (rd l2 x50_2)]) (by first|(rw [show (l2.take (x50_2:Int).toNat).length=x50_2.toNat from (by rw [aH];have h_:(x50_2:Int)≤(l2.length:Int):=of_decide_eq_true (by first|(with_reducible assumption)|assumption);omega)] <;> rfl)|rfl) ?_;(with_reducible refine (slices_Contains_int_int.calls k2 _ _ (l2.take (x50_2:Int).toNat) (rd l2 x50_2) true _ ?side1 ?side2 A28.out).mono ?_);(case side1=>repeat (first|exact (Kd.Ql HR109.out HB.out)|(with_reducible refine Kd.Qd ?_ _)|(with_reducible refine Kd.Qe ?_ _)|(with_reducible refine Kd.C_drew ?_)));(case side2=>exact HC109.out);rintro e w' ⟨rfl,⟨nd,rfl⟩⟩;(try first|exact ⟨rfl,_,World.drewN_drewN _ _ _⟩|exact ⟨rfl,_,Eq.trans (World.drewN_drewN _ _ _) (congrArg (World.drewN _) (Nat.add_assoc _ _ _))⟩)))
            repeat (go_quiet (first|(go_at_call 150;refine calls_of_args (args':=#[.slice (some ad110) (l2.take (x50_2:Int).toNat).length c2,.int .i64 (rd l2 x50_2)]) (by first|(rw [show (l2.take (x50_2:Int).toNat).length=x50_2.toNat from (by rw [aH];have h_:(x50_2:Int)≤(l2.length:Int):=of_decide_eq_true (by first|(with_reducible assumption)|assumption);omega)] <;> rfl)|rfl) ?_;(with_reducible refine (slices_Contains_int_int.calls k2 _ _ (l2.take (x50_2:Int).toNat) (rd l2 x50_2) true _ ?side1 ?side2 A28.out).mono ?_);(case side1=>repeat (first|exact (Kd.Ql HR109.out HB.out)|(with_reducible refine Kd.Qd ?_ _)|(with_reducible refine Kd.Qe ?_ _)|(with_reducible refine Kd.C_drew ?_)));(case side2=>exact HC109.out);rintro e w' ⟨rfl,⟨nd,rfl⟩⟩;(try first|exact ⟨rfl,_,World.drewN_drewN _ _ _⟩|exact ⟨rfl,_,Eq.trans (World.drewN_drewN _ _ _) (congrArg (World.drewN _) (Nat.add_assoc _ _ _))⟩)));try go_wp2_with (first|(go_at_call 150;refine calls_of_args (args':=#[.slice (some ad110) (l2.take (x50_2:Int).toNat).length c2,.int .i64 (rd l2 x50_2)]) (by first|(rw [show (l2.take (x50_2:Int).toNat).length=x50_2.toNat from (by rw [aH];have h_:(x50_2:Int)≤(l2.length:Int):=of_decide_eq_true (by first|(with_reducible assumption)|assumption);omega)] <;> rfl)|rfl) ?_;(with_reducible refine (slices_Contains_int_int.calls k2 _ _ (l2.take (x50_2:Int).toNat) (rd l2 x50_2) true _ ?side1 ?side2 A28.out).mono ?_);(case side1=>repeat (first|exact (Kd.Ql HR109.out HB.out)|(with_reducible refine Kd.Qd ?_ _)|(with_reducible refine Kd.Qe ?_ _)|(with_reducible refine Kd.C_drew ?_)));(case side2=>exact HC109.out);rintro e w' ⟨rfl,⟨nd,rfl⟩⟩;(try first|exact ⟨rfl,_,World.drewN_drewN _ _ _⟩|exact ⟨rfl,_,Eq.trans (World.drewN_drewN _ _ _) (congrArg (World.drewN _) (Nat.add_assoc _ _ _))⟩))))
            go_ret3
            exact ⟨_,by first|rfl|(simp [errW_none,errW_some] <;> rfl)|(simp [*,errW_none,errW_some] <;> rfl),by first|exact Kd.S_nil _ _ _ _ _|exact Kd.N_nil _ _ _ _ _|exact Kd.V_nil _ _ _ _ _|exact Kd.Q_nil _ _ _ _ _|exact Kd.R_nil _ _ _ _ _,by repeat (first|(with_reducible first|exact HB.out|apply Qb|apply Qa|apply Qc)|exact HB.out)⟩
           ·replace c29:=Bool.eq_false_iff.mpr c29;subst c29;have H1:(if x50_2 > 0 then (if 0≤(wrap64 (x50_2 - 1)) then (if (wrap64 (x50_2 - 1))<(l2.length:Int) then ((impl_room.f l0 l1 (rd l2 (wrap64 (x50_2 - 1))) (rd l2 x50_2)).bind fun t114=>(if t114≤0 then (some (([]:List (List Int)),0,false)) else (impl_PushWay.l0 k2 l0 l1 l2 (l2.length:Int) (wrap64 (x50_2+1))))) else (none)) else (none)) else (impl_PushWay.l0 k2 l0 l1 l2 (l2.length:Int) (wrap64 (x50_2+1))))=some (r1,r2,r3):=by rw [if_neg (show ¬ (false=true) by decide)] at H;exact H
            clear H;have H:=H1;clear H1;by_cases c31:x50_2 > 0
            ·rw [if_pos c31] at H;have c31b0:decide (0<x50_2)=true:=decide_eq_true c31;clear c31;obtain ⟨ji32,hji32⟩:∃ j_:Int,(wrap64 (x50_2 - 1))=j_:=⟨_,rfl⟩;replace H:(if 0≤(ji32) then (if (ji32)<(l2.length:Int) then ((impl_room.f l0 l1 (rd l2 (ji32)) (rd l2 x50_2)).bind fun t114=>(if t114≤0 then (some (([]:List (List Int)),0,false)) else (impl_PushWay.l0 k2 l0 l1 l2 (l2.length:Int) (wrap64 (x50_2+1))))) else (none)) else (none))=some (r1,r2,r3):=by first|(rw [hji32] at H;exact H)|(simp only [hji32] at H ⊢;exact H)
             (try rw [hji32] at A28);have hji32w:(IntKind.i64.wrap (x50_2 - 1))=ji32:=(i64_w _).trans hji32;by_cases c33:0≤(ji32)
             ·rw [if_pos c33] at H;have c33b0:decide (0≤(ji32))=true:=decide_eq_true c33;clear c33;by_cases c34:(ji32)<(l2.length:Int)
              ·rw [if_pos c34] at H;have c34b0:decide ((ji32)<(l2.length:Int))=true:=decide_eq_true c34;clear c34;replace H:=Option.bind_eq_some_iff.mp H;obtain ⟨t114,A350,H⟩:=H;replace H:(if t114≤0 then (some (([]:List (List Int)),0,false)) else (impl_PushWay.l0 k2 l0 l1 l2 (l2.length:Int) (wrap64 (x50_2+1))))=some (r1,r2,r3):=H;have A35:=aM A350;clear A350;by_cases c36:t114≤0
               ·rw [if_pos c36] at H;have c36b0:decide (t114≤0)=true:=decide_eq_true c36;clear c36;simp only [Option.some.injEq,Prod.mk.injEq] at H;obtain ⟨rfl,rfl,rfl⟩:=H;obtain ⟨i037,hi037,_,hsz37,_⟩:=info_parts info3;obtain ⟨hcut37,hA37,hC37⟩:=print_take_of (P:=Try.prog) (Value.int .i64) 0 34 3 .i64 Try.underlying34 hi037 hsz37 A2 c2 l2 x50_2 (of_decide_eq_true (by first|(with_reducible assumption)|assumption)) (of_decide_eq_true (by first|(with_reducible assumption)|assumption)) HC2.out;have HR109:=aM (Kd.C_of_reads (h1:=fun _=>rfl) (hA37 _ (Kd.reads_of_C HR2.out)));have HC109:=aM hC37;clear hA37 hC37 hi037 hsz37;have p110:0≤(x50_2:Int):=of_decide_eq_true (by first|(with_reducible assumption)|assumption);have q110:x50_2<(l2.length:Int):=of_decide_eq_true (by first|(with_reducible assumption)|assumption);obtain ⟨ad110,e110,hx110_0⟩:=Kd.at_int HR2.out x50_2 p110 q110
                cases e110
                replace hx110_0:=(HB.out.cell (aI w _ hx110_0)).trans hx110_0;replace p110:=eq_true p110;replace q110:=eq_true q110;go_wp2_with (first|(go_at_call 150;refine calls_of_args (args':=#[.slice (some ad110) (l2.take (x50_2:Int).toNat).length c2,.int .i64 (rd l2 x50_2)]) (by first|(rw [show (l2.take (x50_2:Int).toNat).length=x50_2.toNat from (by rw [aH];have h_:(x50_2:Int)≤(l2.length:Int):=of_decide_eq_true (by first|(with_reducible assumption)|assumption);omega)] <;> rfl)|rfl) ?_;(with_reducible refine (slices_Contains_int_int.calls k2 _ _ (l2.take (x50_2:Int).toNat) (rd l2 x50_2) false _ ?side1 ?side2 A28.out).mono ?_);(case side1=>repeat (first|exact (Kd.Ql HR109.out HB.out)|(with_reducible refine Kd.Qd ?_ _)|(with_reducible refine Kd.Qe ?_ _)|(with_reducible refine Kd.C_drew ?_)));(case side2=>exact HC109.out);rintro e w' ⟨rfl,⟨nd,rfl⟩⟩;(try first|exact ⟨rfl,_,World.drewN_drewN _ _ _⟩|exact ⟨rfl,_,Eq.trans (World.drewN_drewN _ _ _) (congrArg (World.drewN _) (Nat.add_assoc _ _ _))⟩);have p112:0≤((ji32):Int):=of_decide_eq_true (by first|(with_reducible assumption)|assumption);have q112:(ji32)<(l2.length:Int):=of_decide_eq_true (by first|(with_reducible assumption)|assumption);obtain ⟨ad112,e112,hx112_0⟩:=Kd.at_int HR2.out (ji32) p112 q112;obtain rfl:ad110=ad112:=(by injection e112);replace hx112_0:=(HB.out.cell (aI w _ hx112_0)).trans hx112_0;replace p112:=eq_true p112;replace q112:=eq_true q112;have p113:0≤(x50_2:Int):=of_decide_eq_true (by first|(with_reducible assumption)|assumption);have q113:x50_2<(l2.length:Int):=of_decide_eq_true (by first|(with_reducible assumption)|assumption);obtain ⟨ad113,e113,hx113_0⟩:=Kd.at_int HR2.out x50_2 p113 q113;obtain rfl:ad110=ad113:=(by injection e113);replace hx113_0:=(HB.out.cell (aI w _ hx113_0)).trans hx113_0;replace p113:=eq_true p113;replace q113:=eq_true q113)|(go_at_call 151;(with_reducible refine (impl_room.calls _ _ l0 _ _ l1 (rd l2 (ji32)) (rd l2 x50_2) t114 _ ?side1 ?side2 ?side3 ?side4 A35.out).mono ?_);(case side1=>repeat (first|exact (Kd.Ql HR0.out (by repeat (first|(with_reducible first|exact HB.out|apply Qb|apply Qa|apply Qc)|exact HB.out)))|(with_reducible refine Kd.Qd ?_ _)|(with_reducible refine Kd.Qe ?_ _)|(with_reducible refine Kd.C_drew ?_)));(case side2=>exact HC0.out);(case side3=>repeat (first|exact (Kd.Ql HR1.out (by repeat (first|(with_reducible first|exact HB.out|apply Qb|apply Qa|apply Qc)|exact HB.out)))|(with_reducible refine Kd.Qd ?_ _)|(with_reducible refine Kd.Qe ?_ _)|(with_reducible refine Kd.C_drew ?_)));(case side4=>exact HC1.out);rintro e w' ⟨rfl,⟨nd,rfl⟩⟩;(try first|exact ⟨rfl,_,World.drewN_drewN _ _ _⟩|exact ⟨rfl,_,Eq.trans (World.drewN_drewN _ _ _) (congrArg (World.drewN _) (Nat.add_assoc _ _ _))⟩)))
                repeat (go_quiet (first|(go_at_call 150;refine calls_of_args (args':=#[.slice (some ad110) (l2.take (x50_2:Int).toNat).length c2,.int .i64 (rd l2 x50_2)]) (by first|(rw [show (l2.take (x50_2:Int).toNat).length=x50_2.toNat from (by rw [aH];have h_:(x50_2:Int)≤(l2.length:Int):=of_decide_eq_true (by first|(with_reducible assumption)|assumption);omega)] <;> rfl)|rfl) ?_;(with_reducible refine (slices_Contains_int_int.calls k2 _ _ (l2.take (x50_2:Int).toNat) (rd l2 x50_2) false _ ?side1 ?side2 A28.out).mono ?_);(case side1=>repeat (first|exact (Kd.Ql HR109.out HB.out)|(with_reducible refine Kd.Qd ?_ _)|(with_reducible refine Kd.Qe ?_ _)|(with_reducible refine Kd.C_drew ?_)));(case side2=>exact HC109.out);rintro e w' ⟨rfl,⟨nd,rfl⟩⟩;(try first|exact ⟨rfl,_,World.drewN_drewN _ _ _⟩|exact ⟨rfl,_,Eq.trans (World.drewN_drewN _ _ _) (congrArg (World.drewN _) (Nat.add_assoc _ _ _))⟩);have p112:0≤((ji32):Int):=of_decide_eq_true (by first|(with_reducible assumption)|assumption);have q112:(ji32)<(l2.length:Int):=of_decide_eq_true (by first|(with_reducible assumption)|assumption);obtain ⟨ad112,e112,hx112_0⟩:=Kd.at_int HR2.out (ji32) p112 q112;obtain rfl:ad110=ad112:=(by injection e112);replace hx112_0:=(HB.out.cell (aI w _ hx112_0)).trans hx112_0;replace p112:=eq_true p112;replace q112:=eq_true q112;have p113:0≤(x50_2:Int):=of_decide_eq_true (by first|(with_reducible assumption)|assumption);have q113:x50_2<(l2.length:Int):=of_decide_eq_true (by first|(with_reducible assumption)|assumption);obtain ⟨ad113,e113,hx113_0⟩:=Kd.at_int HR2.out x50_2 p113 q113;obtain rfl:ad110=ad113:=(by injection e113);replace hx113_0:=(HB.out.cell (aI w _ hx113_0)).trans hx113_0;replace p113:=eq_true p113;replace q113:=eq_true q113)|(go_at_call 151;(with_reducible refine (impl_room.calls _ _ l0 _ _ l1 (rd l2 (ji32)) (rd l2 x50_2) t114 _ ?side1 ?side2 ?side3 ?side4 A35.out).mono ?_);(case side1=>repeat (first|exact (Kd.Ql HR0.out (by repeat (first|(with_reducible first|exact HB.out|apply Qb|apply Qa|apply Qc)|exact HB.out)))|(with_reducible refine Kd.Qd ?_ _)|(with_reducible refine Kd.Qe ?_ _)|(with_reducible refine Kd.C_drew ?_)));(case side2=>exact HC0.out);(case side3=>repeat (first|exact (Kd.Ql HR1.out (by repeat (first|(with_reducible first|exact HB.out|apply Qb|apply Qa|apply Qc)|exact HB.out)))|(with_reducible refine Kd.Qd ?_ _)|(with_reducible refine Kd.Qe ?_ _)|(with_reducible refine Kd.C_drew ?_)));(case side4=>exact HC1.out);rintro e w' ⟨rfl,⟨nd,rfl⟩⟩;(try first|exact ⟨rfl,_,World.drewN_drewN _ _ _⟩|exact ⟨rfl,_,Eq.trans (World.drewN_drewN _ _ _) (congrArg (World.drewN _) (Nat.add_assoc _ _ _))⟩)));try go_wp2_with (first|(go_at_call 150;refine calls_of_args (args':=#[.slice (some ad110) (l2.take (x50_2:Int).toNat).length c2,.int .i64 (rd l2 x50_2)]) (by first|(rw [show (l2.take (x50_2:Int).toNat).length=x50_2.toNat from (by rw [aH];have h_:(x50_2:Int)≤(l2.length:Int):=of_decide_eq_true (by first|(with_reducible assumption)|assumption);omega)] <;> rfl)|rfl) ?_;(with_reducible refine (slices_Contains_int_int.calls k2 _ _ (l2.take (x50_2:Int).toNat) (rd l2 x50_2) false _ ?side1 ?side2 A28.out).mono ?_);(case side1=>repeat (first|exact (Kd.Ql HR109.out HB.out)|(with_reducible refine Kd.Qd ?_ _)|(with_reducible refine Kd.Qe ?_ _)|(with_reducible refine Kd.C_drew ?_)));(case side2=>exact HC109.out);rintro e w' ⟨rfl,⟨nd,rfl⟩⟩;(try first|exact ⟨rfl,_,World.drewN_drewN _ _ _⟩|exact ⟨rfl,_,Eq.trans (World.drewN_drewN _ _ _) (congrArg (World.drewN _) (Nat.add_assoc _ _ _))⟩);have p112:0≤((ji32):Int):=of_decide_eq_true (by first|(with_reducible assumption)|assumption);have q112:(ji32)<(l2.length:Int):=of_decide_eq_true (by first|(with_reducible assumption)|assumption);obtain ⟨ad112,e112,hx112_0⟩:=Kd.at_int HR2.out (ji32) p112 q112;obtain rfl:ad110=ad112:=(by injection e112);replace hx112_0:=(HB.out.cell (aI w _ hx112_0)).trans hx112_0;replace p112:=eq_true p112;replace q112:=eq_true q112;have p113:0≤(x50_2:Int):=of_decide_eq_true (by first|(with_reducible assumption)|assumption);have q113:x50_2<(l2.length:Int):=of_decide_eq_true (by first|(with_reducible assumption)|assumption);obtain ⟨ad113,e113,hx113_0⟩:=Kd.at_int HR2.out x50_2 p113 q113;obtain rfl:ad110=ad113:=(by injection e113);replace hx113_0:=(HB.out.cell (aI w _ hx113_0)).trans hx113_0;replace p113:=eq_true p113;replace q113:=eq_true q113)|(go_at_call 151;(with_reducible refine (impl_room.calls _ _ l0 _ _ l1 (rd l2 (ji32)) (rd l2 x50_2) t114 _ ?side1 ?side2 ?side3 ?side4 A35.out).mono ?_);(case side1=>repeat (first|exact (Kd.Ql HR0.out (by repeat (first|(with_reducible first|exact HB.out|apply Qb|apply Qa|apply Qc)|exact HB.out)))|(with_reducible refine Kd.Qd ?_ _)|(with_reducible refine Kd.Qe ?_ _)|(with_reducible refine Kd.C_drew ?_)));(case side2=>exact HC0.out);(case side3=>repeat (first|exact (Kd.Ql HR1.out (by repeat (first|(with_reducible first|exact HB.out|apply Qb|apply Qa|apply Qc)|exact HB.out)))|(with_reducible refine Kd.Qd ?_ _)|(with_reducible refine Kd.Qe ?_ _)|(with_reducible refine Kd.C_drew ?_)));(case side4=>exact HC1.out);rintro e w' ⟨rfl,⟨nd,rfl⟩⟩;(try first|exact ⟨rfl,_,World.drewN_drewN _ _ _⟩|exact ⟨rfl,_,Eq.trans (World.drewN_drewN _ _ _) (congrArg (World.drewN _) (Nat.add_assoc _ _ _))⟩))))
                go_ret3
                exact ⟨_,by first|rfl|(simp [errW_none,errW_some] <;> rfl)|(simp only [←hji32];first|rfl|(simp [errW_none,errW_some] <;> rfl))|(simp [*,errW_none,errW_some] <;> rfl),by first|exact Kd.S_nil _ _ _ _ _|exact Kd.N_nil _ _ _ _ _|exact Kd.V_nil _ _ _ _ _|exact Kd.Q_nil _ _ _ _ _|exact Kd.R_nil _ _ _ _ _,by repeat (first|(with_reducible first|exact HB.out|apply Qb|apply Qa|apply Qc)|exact HB.out)⟩
               ·rw [if_neg c36] at H;have c36b0:decide (t114≤0)=false:=decide_eq_false c36;clear c36;have H':=aM H;clear H;obtain ⟨i038,hi038,_,hsz38,_⟩:=info_parts info3;obtain ⟨hcut38,hA38,hC38⟩:=print_take_of (P:=Try.prog) (Value.int .i64) 0 34 3 .i64 Try.underlying34 hi038 hsz38 A2 c2 l2 x50_2 (of_decide_eq_true (by first|(with_reducible assumption)|assumption)) (of_decide_eq_true (by first|(with_reducible assumption)|assumption)) HC2.out;have HR109:=aM (Kd.C_of_reads (h1:=fun _=>rfl) (hA38 _ (Kd.reads_of_C HR2.out)));have HC109:=aM hC38;clear hA38 hC38 hi038 hsz38;have p110:0≤(x50_2:Int):=of_decide_eq_true (by first|(with_reducible assumption)|assumption);have q110:x50_2<(l2.length:Int):=of_decide_eq_true (by first|(with_reducible assumption)|assumption);obtain ⟨ad110,e110,hx110_0⟩:=Kd.at_int HR2.out x50_2 p110 q110
                cases e110
                replace hx110_0:=(HB.out.cell (aI w _ hx110_0)).trans hx110_0;replace p110:=eq_true p110;replace q110:=eq_true q110;go_wp2_with (first|(go_at_call 150;refine calls_of_args (args':=#[.slice (some ad110) (l2.take (x50_2:Int).toNat).length c2,.int .i64 (rd l2 x50_2)]) (by first|(rw [show (l2.take (x50_2:Int).toNat).length=x50_2.toNat from (by rw [aH];have h_:(x50_2:Int)≤(l2.length:Int):=of_decide_eq_true (by first|(with_reducible assumption)|assumption);omega)] <;> rfl)|rfl) ?_;(with_reducible refine (slices_Contains_int_int.calls k2 _ _ (l2.take (x50_2:Int).toNat) (rd l2 x50_2) false _ ?side1 ?side2 A28.out).mono ?_);(case side1=>repeat (first|exact (Kd.Ql HR109.out HB.out)|(with_reducible refine Kd.Qd ?_ _)|(with_reducible refine Kd.Qe ?_ _)|(with_reducible refine Kd.C_drew ?_)));(case side2=>exact HC109.out);rintro e w' ⟨rfl,⟨nd,rfl⟩⟩;(try first|exact ⟨rfl,_,World.drewN_drewN _ _ _⟩|exact ⟨rfl,_,Eq.trans (World.drewN_drewN _ _ _) (congrArg (World.drewN _) (Nat.add_assoc _ _ _))⟩);have p112:0≤((ji32):Int):=of_decide_eq_true (by first|(with_reducible assumption)|assumption);have q112:(ji32)<(l2.length:Int):=of_decide_eq_true (by first|(with_reducible assumption)|assumption);obtain ⟨ad112,e112,hx112_0⟩:=Kd.at_int HR2.out (ji32) p112 q112;obtain rfl:ad110=ad112:=(by injection e112);replace hx112_0:=(HB.out.cell (aI w _ hx112_0)).trans hx112_0;replace p112:=eq_true p112;replace q112:=eq_true q112;have p113:0≤(x50_2:Int):=of_decide_eq_true (by first|(with_reducible assumption)|assumption);have q113:x50_2<(l2.length:Int):=of_decide_eq_true (by first|(with_reducible assumption)|assumption);obtain ⟨ad113,e113,hx113_0⟩:=Kd.at_int HR2.out x50_2 p113 q113;obtain rfl:ad110=ad113:=(by injection e113);replace hx113_0:=(HB.out.cell (aI w _ hx113_0)).trans hx113_0;replace p113:=eq_true p113;replace q113:=eq_true q113)|(go_at_call 151;(with_reducible refine (impl_room.calls _ _ l0 _ _ l1 (rd l2 (ji32)) (rd l2 x50_2) t114 _ ?side1 ?side2 ?side3 ?side4 A35.out).mono ?_);(case side1=>repeat (first|exact (Kd.Ql HR0.out (by repeat (first|(with_reducible first|exact HB.out|apply Qb|apply Qa|apply Qc)|exact HB.out)))|(with_reducible refine Kd.Qd ?_ _)|(with_reducible refine Kd.Qe ?_ _)|(with_reducible refine Kd.C_drew ?_)));(case side2=>exact HC0.out);(case side3=>repeat (first|exact (Kd.Ql HR1.out (by repeat (first|(with_reducible first|exact HB.out|apply Qb|apply Qa|apply Qc)|exact HB.out)))|(with_reducible refine Kd.Qd ?_ _)|(with_reducible refine Kd.Qe ?_ _)|(with_reducible refine Kd.C_drew ?_)));(case side4=>exact HC1.out);rintro e w' ⟨rfl,⟨nd,rfl⟩⟩;(try first|exact ⟨rfl,_,World.drewN_drewN _ _ _⟩|exact ⟨rfl,_,Eq.trans (World.drewN_drewN _ _ _) (congrArg (World.drewN _) (Nat.add_assoc _ _ _))⟩)))
                repeat (go_quiet (first|(go_at_call 150;refine calls_of_args (args':=#[.slice (some ad110) (l2.take (x50_2:Int).toNat).length c2,.int .i64 (rd l2 x50_2)]) (by first|(rw [show (l2.take (x50_2:Int).toNat).length=x50_2.toNat from (by rw [aH];have h_:(x50_2:Int)≤(l2.length:Int):=of_decide_eq_true (by first|(with_reducible assumption)|assumption);omega)] <;> rfl)|rfl) ?_;(with_reducible refine (slices_Contains_int_int.calls k2 _ _ (l2.take (x50_2:Int).toNat) (rd l2 x50_2) false _ ?side1 ?side2 A28.out).mono ?_);(case side1=>repeat (first|exact (Kd.Ql HR109.out HB.out)|(with_reducible refine Kd.Qd ?_ _)|(with_reducible refine Kd.Qe ?_ _)|(with_reducible refine Kd.C_drew ?_)));(case side2=>exact HC109.out);rintro e w' ⟨rfl,⟨nd,rfl⟩⟩;(try first|exact ⟨rfl,_,World.drewN_drewN _ _ _⟩|exact ⟨rfl,_,Eq.trans (World.drewN_drewN _ _ _) (congrArg (World.drewN _) (Nat.add_assoc _ _ _))⟩);have p112:0≤((ji32):Int):=of_decide_eq_true (by first|(with_reducible assumption)|assumption);have q112:(ji32)<(l2.length:Int):=of_decide_eq_true (by first|(with_reducible assumption)|assumption);obtain ⟨ad112,e112,hx112_0⟩:=Kd.at_int HR2.out (ji32) p112 q112;obtain rfl:ad110=ad112:=(by injection e112);replace hx112_0:=(HB.out.cell (aI w _ hx112_0)).trans hx112_0;replace p112:=eq_true p112;replace q112:=eq_true q112;have p113:0≤(x50_2:Int):=of_decide_eq_true (by first|(with_reducible assumption)|assumption);have q113:x50_2<(l2.length:Int):=of_decide_eq_true (by first|(with_reducible assumption)|assumption);obtain ⟨ad113,e113,hx113_0⟩:=Kd.at_int HR2.out x50_2 p113 q113;obtain rfl:ad110=ad113:=(by injection e113);replace hx113_0:=(HB.out.cell (aI w _ hx113_0)).trans hx113_0;replace p113:=eq_true p113;replace q113:=eq_true q113)|(go_at_call 151;(with_reducible refine (impl_room.calls _ _ l0 _ _ l1 (rd l2 (ji32)) (rd l2 x50_2) t114 _ ?side1 ?side2 ?side3 ?side4 A35.out).mono ?_);(case side1=>repeat (first|exact (Kd.Ql HR0.out (by repeat (first|(with_reducible first|exact HB.out|apply Qb|apply Qa|apply Qc)|exact HB.out)))|(with_reducible refine Kd.Qd ?_ _)|(with_reducible refine Kd.Qe ?_ _)|(with_reducible refine Kd.C_drew ?_)));(case side2=>exact HC0.out);(case side3=>repeat (first|exact (Kd.Ql HR1.out (by repeat (first|(with_reducible first|exact HB.out|apply Qb|apply Qa|apply Qc)|exact HB.out)))|(with_reducible refine Kd.Qd ?_ _)|(with_reducible refine Kd.Qe ?_ _)|(with_reducible refine Kd.C_drew ?_)));(case side4=>exact HC1.out);rintro e w' ⟨rfl,⟨nd,rfl⟩⟩;(try first|exact ⟨rfl,_,World.drewN_drewN _ _ _⟩|exact ⟨rfl,_,Eq.trans (World.drewN_drewN _ _ _) (congrArg (World.drewN _) (Nat.add_assoc _ _ _))⟩)));try go_wp2_with (first|(go_at_call 150;refine calls_of_args (args':=#[.slice (some ad110) (l2.take (x50_2:Int).toNat).length c2,.int .i64 (rd l2 x50_2)]) (by first|(rw [show (l2.take (x50_2:Int).toNat).length=x50_2.toNat from (by rw [aH];have h_:(x50_2:Int)≤(l2.length:Int):=of_decide_eq_true (by first|(with_reducible assumption)|assumption);omega)] <;> rfl)|rfl) ?_;(with_reducible refine (slices_Contains_int_int.calls k2 _ _ (l2.take (x50_2:Int).toNat) (rd l2 x50_2) false _ ?side1 ?side2 A28.out).mono ?_);(case side1=>repeat (first|exact (Kd.Ql HR109.out HB.out)|(with_reducible refine Kd.Qd ?_ _)|(with_reducible refine Kd.Qe ?_ _)|(with_reducible refine Kd.C_drew ?_)));(case side2=>exact HC109.out);rintro e w' ⟨rfl,⟨nd,rfl⟩⟩;(try first|exact ⟨rfl,_,World.drewN_drewN _ _ _⟩|exact ⟨rfl,_,Eq.trans (World.drewN_drewN _ _ _) (congrArg (World.drewN _) (Nat.add_assoc _ _ _))⟩);have p112:0≤((ji32):Int):=of_decide_eq_true (by first|(with_reducible assumption)|assumption);have q112:(ji32)<(l2.length:Int):=of_decide_eq_true (by first|(with_reducible assumption)|assumption);obtain ⟨ad112,e112,hx112_0⟩:=Kd.at_int HR2.out (ji32) p112 q112;obtain rfl:ad110=ad112:=(by injection e112);replace hx112_0:=(HB.out.cell (aI w _ hx112_0)).trans hx112_0;replace p112:=eq_true p112;replace q112:=eq_true q112;have p113:0≤(x50_2:Int):=of_decide_eq_true (by first|(with_reducible assumption)|assumption);have q113:x50_2<(l2.length:Int):=of_decide_eq_true (by first|(with_reducible assumption)|assumption);obtain ⟨ad113,e113,hx113_0⟩:=Kd.at_int HR2.out x50_2 p113 q113;obtain rfl:ad110=ad113:=(by injection e113);replace hx113_0:=(HB.out.cell (aI w _ hx113_0)).trans hx113_0;replace p113:=eq_true p113;replace q113:=eq_true q113)|(go_at_call 151;(with_reducible refine (impl_room.calls _ _ l0 _ _ l1 (rd l2 (ji32)) (rd l2 x50_2) t114 _ ?side1 ?side2 ?side3 ?side4 A35.out).mono ?_);(case side1=>repeat (first|exact (Kd.Ql HR0.out (by repeat (first|(with_reducible first|exact HB.out|apply Qb|apply Qa|apply Qc)|exact HB.out)))|(with_reducible refine Kd.Qd ?_ _)|(with_reducible refine Kd.Qe ?_ _)|(with_reducible refine Kd.C_drew ?_)));(case side2=>exact HC0.out);(case side3=>repeat (first|exact (Kd.Ql HR1.out (by repeat (first|(with_reducible first|exact HB.out|apply Qb|apply Qa|apply Qc)|exact HB.out)))|(with_reducible refine Kd.Qd ?_ _)|(with_reducible refine Kd.Qe ?_ _)|(with_reducible refine Kd.C_drew ?_)));(case side4=>exact HC1.out);rintro e w' ⟨rfl,⟨nd,rfl⟩⟩;(try first|exact ⟨rfl,_,World.drewN_drewN _ _ _⟩|exact ⟨rfl,_,Eq.trans (World.drewN_drewN _ _ _) (congrArg (World.drewN _) (Nat.add_assoc _ _ _))⟩))))
                go_roundg k2
                case measure=>have:=HJ3.out;have:=HK2.out;omega
                case rel=>exact ⟨(wrap64 (x50_2+1)),(by first|rfl|(simp;done)|(simp [*];done)),H',⟨by have:=HJ3.out;have:=HK2.out;omega⟩,⟨by repeat (first|(with_reducible first|exact HB.out|apply Qb|apply Qa|apply Qc)|exact HB.out)⟩⟩
              ·rw [if_neg c34] at H;exact absurd H (by simp)
             ·rw [if_neg c33] at H;exact absurd H (by simp)
            ·rw [if_neg c31] at H;have c31b0:decide (0<x50_2)=false:=decide_eq_false c31;clear c31;have H':=aM H;clear H;obtain ⟨i039,hi039,_,hsz39,_⟩:=info_parts info3;obtain ⟨hcut39,hA39,hC39⟩:=print_take_of (P:=Try.prog) (Value.int .i64) 0 34 3 .i64 Try.underlying34 hi039 hsz39 A2 c2 l2 x50_2 (of_decide_eq_true (by first|(with_reducible assumption)|assumption)) (of_decide_eq_true (by first|(with_reducible assumption)|assumption)) HC2.out;have HR109:=aM (Kd.C_of_reads (h1:=fun _=>rfl) (hA39 _ (Kd.reads_of_C HR2.out)));have HC109:=aM hC39;clear hA39 hC39 hi039 hsz39;have p110:0≤(x50_2:Int):=of_decide_eq_true (by first|(with_reducible assumption)|assumption);have q110:x50_2<(l2.length:Int):=of_decide_eq_true (by first|(with_reducible assumption)|assumption);obtain ⟨ad110,e110,hx110_0⟩:=Kd.at_int HR2.out x50_2 p110 q110
             cases e110
             replace hx110_0:=(HB.out.cell (aI w _ hx110_0)).trans hx110_0;replace p110:=eq_true p110;replace q110:=eq_true q110;go_wp2_with (first|(go_at_call 150;refine calls_of_args (args':=#[.slice (some ad110) (l2.take (x50_2:Int).toNat).length c2,.int .i64 (rd l2 x50_2)]) (by first|(rw [show (l2.take (x50_2:Int).toNat).length=x50_2.toNat from (by rw [aH];have h_:(x50_2:Int)≤(l2.length:Int):=of_decide_eq_true (by first|(with_reducible assumption)|assumption);omega)] <;> rfl)|rfl) ?_;(with_reducible refine (slices_Contains_int_int.calls k2 _ _ (l2.take (x50_2:Int).toNat) (rd l2 x50_2) false _ ?side1 ?side2 A28.out).mono ?_);(case side1=>repeat (first|exact (Kd.Ql HR109.out HB.out)|(with_reducible refine Kd.Qd ?_ _)|(with_reducible refine Kd.Qe ?_ _)|(with_reducible refine Kd.C_drew ?_)));(case side2=>exact HC109.out);rintro e w' ⟨rfl,⟨nd,rfl⟩⟩;(try first|exact ⟨rfl,_,World.drewN_drewN _ _ _⟩|exact ⟨rfl,_,Eq.trans (World.drewN_drewN _ _ _) (congrArg (World.drewN _) (Nat.add_assoc _ _ _))⟩)))
             repeat (go_quiet (first|(go_at_call 150;refine calls_of_args (args':=#[.slice (some ad110) (l2.take (x50_2:Int).toNat).length c2,.int .i64 (rd l2 x50_2)]) (by first|(rw [show (l2.take (x50_2:Int).toNat).length=x50_2.toNat from (by rw [aH];have h_:(x50_2:Int)≤(l2.length:Int):=of_decide_eq_true (by first|(with_reducible assumption)|assumption);omega)] <;> rfl)|rfl) ?_;(with_reducible refine (slices_Contains_int_int.calls k2 _ _ (l2.take (x50_2:Int).toNat) (rd l2 x50_2) false _ ?side1 ?side2 A28.out).mono ?_);(case side1=>repeat (first|exact (Kd.Ql HR109.out HB.out)|(with_reducible refine Kd.Qd ?_ _)|(with_reducible refine Kd.Qe ?_ _)|(with_reducible refine Kd.C_drew ?_)));(case side2=>exact HC109.out);rintro e w' ⟨rfl,⟨nd,rfl⟩⟩;(try first|exact ⟨rfl,_,World.drewN_drewN _ _ _⟩|exact ⟨rfl,_,Eq.trans (World.drewN_drewN _ _ _) (congrArg (World.drewN _) (Nat.add_assoc _ _ _))⟩)));try go_wp2_with (first|(go_at_call 150;refine calls_of_args (args':=#[.slice (some ad110) (l2.take (x50_2:Int).toNat).length c2,.int .i64 (rd l2 x50_2)]) (by first|(rw [show (l2.take (x50_2:Int).toNat).length=x50_2.toNat from (by rw [aH];have h_:(x50_2:Int)≤(l2.length:Int):=of_decide_eq_true (by first|(with_reducible assumption)|assumption);omega)] <;> rfl)|rfl) ?_;(with_reducible refine (slices_Contains_int_int.calls k2 _ _ (l2.take (x50_2:Int).toNat) (rd l2 x50_2) false _ ?side1 ?side2 A28.out).mono ?_);(case side1=>repeat (first|exact (Kd.Ql HR109.out HB.out)|(with_reducible refine Kd.Qd ?_ _)|(with_reducible refine Kd.Qe ?_ _)|(with_reducible refine Kd.C_drew ?_)));(case side2=>exact HC109.out);rintro e w' ⟨rfl,⟨nd,rfl⟩⟩;(try first|exact ⟨rfl,_,World.drewN_drewN _ _ _⟩|exact ⟨rfl,_,Eq.trans (World.drewN_drewN _ _ _) (congrArg (World.drewN _) (Nat.add_assoc _ _ _))⟩))))
             go_roundg k2
             case measure=>have:=HJ3.out;have:=HK2.out;omega
             case rel=>exact ⟨(wrap64 (x50_2+1)),(by first|rfl|(simp;done)|(simp [*];done)),H',⟨by have:=HJ3.out;have:=HK2.out;omega⟩,⟨by repeat (first|(with_reducible first|exact HB.out|apply Qb|apply Qa|apply Qc)|exact HB.out)⟩⟩
          ·rw [if_neg c27] at H;exact absurd H (by simp)
         ·rw [if_neg c26] at H;exact absurd H (by simp)
        ·rw [if_neg c25] at H;exact absurd H (by simp)
       ·rw [if_neg c24] at H;have c24b0:decide (x50_2<(l2.length:Int))=false:=decide_eq_false c24;clear c24;replace H:=Option.bind_eq_some_iff.mp H;obtain ⟨⟨t105,t106⟩,A400,H⟩:=H;replace H:(some (t105,t106,true))=some (r1,r2,r3):=H;have A40:=aM A400;clear A400;simp only [Option.some.injEq,Prod.mk.injEq] at H;obtain ⟨rfl,rfl,rfl⟩:=H;go_wp2_with (first|(go_at_call 152;(with_reducible refine (impl_pushed.calls k2 _ _ l0 _ _ l1 _ _ l2 t105 t106 _ ?side1 ?side2 ?side3 ?side4 ?side5 ?side6 A40.out).mono ?_);(case side1=>repeat (first|exact (Kd.Ql HR0.out HB.out)|(with_reducible refine Kd.Qd ?_ _)|(with_reducible refine Kd.Qe ?_ _)|(with_reducible refine Kd.C_drew ?_)));(case side2=>exact HC0.out);(case side3=>repeat (first|exact (Kd.Ql HR1.out HB.out)|(with_reducible refine Kd.Qd ?_ _)|(with_reducible refine Kd.Qe ?_ _)|(with_reducible refine Kd.C_drew ?_)));(case side4=>exact HC1.out);(case side5=>repeat (first|exact (Kd.Ql HR2.out HB.out)|(with_reducible refine Kd.Qd ?_ _)|(with_reducible refine Kd.Qe ?_ _)|(with_reducible refine Kd.C_drew ?_)));(case side6=>exact HC2.out);rintro e w41 ⟨v107,rfl,ho0,hb⟩;have n0_:=aM (Kd.S_lower ho0 (Qm (by repeat (first|(with_reducible first|exact HB.out|apply Qb|apply Qa|apply Qc)|exact HB.out))));have n1_:=aM (Qi (by repeat (first|(with_reducible first|exact HB.out|apply Qb|apply Qa|apply Qc)|exact HB.out)) hb);clear HB;have HO108:=n0_;have HB:=n1_;clear n0_ n1_;(try clear hb);(try clear hb2);(try clear hk);(try clear hi);(try clear ho0)))
        repeat (go_quiet (first|(go_at_call 152;(with_reducible refine (impl_pushed.calls k2 _ _ l0 _ _ l1 _ _ l2 t105 t106 _ ?side1 ?side2 ?side3 ?side4 ?side5 ?side6 A40.out).mono ?_);(case side1=>repeat (first|exact (Kd.Ql HR0.out HB.out)|(with_reducible refine Kd.Qd ?_ _)|(with_reducible refine Kd.Qe ?_ _)|(with_reducible refine Kd.C_drew ?_)));(case side2=>exact HC0.out);(case side3=>repeat (first|exact (Kd.Ql HR1.out HB.out)|(with_reducible refine Kd.Qd ?_ _)|(with_reducible refine Kd.Qe ?_ _)|(with_reducible refine Kd.C_drew ?_)));(case side4=>exact HC1.out);(case side5=>repeat (first|exact (Kd.Ql HR2.out HB.out)|(with_reducible refine Kd.Qd ?_ _)|(with_reducible refine Kd.Qe ?_ _)|(with_reducible refine Kd.C_drew ?_)));(case side6=>exact HC2.out);rintro e w41 ⟨v107,rfl,ho0,hb⟩;have n0_:=aM (Kd.S_lower ho0 (Qm (by repeat (first|(with_reducible first|exact HB.out|apply Qb|apply Qa|apply Qc)|exact HB.out))));have n1_:=aM (Qi (by repeat (first|(with_reducible first|exact HB.out|apply Qb|apply Qa|apply Qc)|exact HB.out)) hb);clear HB;have HO108:=n0_;have HB:=n1_;clear n0_ n1_;(try clear hb);(try clear hb2);(try clear hk);(try clear hi);(try clear ho0)));try go_wp2_with (first|(go_at_call 152;(with_reducible refine (impl_pushed.calls k2 _ _ l0 _ _ l1 _ _ l2 t105 t106 _ ?side1 ?side2 ?side3 ?side4 ?side5 ?side6 A40.out).mono ?_);(case side1=>repeat (first|exact (Kd.Ql HR0.out HB.out)|(with_reducible refine Kd.Qd ?_ _)|(with_reducible refine Kd.Qe ?_ _)|(with_reducible refine Kd.C_drew ?_)));(case side2=>exact HC0.out);(case side3=>repeat (first|exact (Kd.Ql HR1.out HB.out)|(with_reducible refine Kd.Qd ?_ _)|(with_reducible refine Kd.Qe ?_ _)|(with_reducible refine Kd.C_drew ?_)));(case side4=>exact HC1.out);(case side5=>repeat (first|exact (Kd.Ql HR2.out HB.out)|(with_reducible refine Kd.Qd ?_ _)|(with_reducible refine Kd.Qe ?_ _)|(with_reducible refine Kd.C_drew ?_)));(case side6=>exact HC2.out);rintro e w41 ⟨v107,rfl,ho0,hb⟩;have n0_:=aM (Kd.S_lower ho0 (Qm (by repeat (first|(with_reducible first|exact HB.out|apply Qb|apply Qa|apply Qc)|exact HB.out))));have n1_:=aM (Qi (by repeat (first|(with_reducible first|exact HB.out|apply Qb|apply Qa|apply Qc)|exact HB.out)) hb);clear HB;have HO108:=n0_;have HB:=n1_;clear n0_ n1_;(try clear hb);(try clear hb2);(try clear hk);(try clear hi);(try clear ho0))))
        go_ret3
        exact ⟨_,by first|rfl|(simp [errW_none,errW_some] <;> rfl)|(simp [*,errW_none,errW_some] <;> rfl),by (with_reducible repeat (first|apply Kd.Qh|apply Kd.Qg|apply Kd.S_drew));exact HO108.out,by repeat (first|(with_reducible first|exact HB.out|apply Qb|apply Qa|apply Qc)|exact HB.out)⟩

mutual
def laws_FnFlows.j0:Nat→List Int→List (List Int)→List (List Int)→Bool→Bool→Bool→Option (Bool)
  |0,_,_,_,_,_,_=>none
  |k+1,x1,x5,x6,x7,x8,x83=>if x83=true then (some false) else ((impl_MostFlow.f k x5).bind fun bt112=>((spec_MostFlow.f k x5).bind fun bt117=>(if (bt112.2.2 != bt117.2.2)=true then (laws_FnFlows.j1 k x1 x5 x6 x7 x8 bt112.1 bt112.2.1 bt112.2.2 true) else ((laws_sameRows.f k bt112.1 bt117.1).bind fun t122=>(if t122=true then (laws_FnFlows.j1 k x1 x5 x6 x7 x8 bt112.1 bt112.2.1 bt112.2.2 (bt112.2.1 != bt117.2.1)) else (laws_FnFlows.j1 k x1 x5 x6 x7 x8 bt112.1 bt112.2.1 bt112.2.2 true))))))
def laws_FnFlows.j1:Nat→List Int→List (List Int)→List (List Int)→Bool→Bool→List (List Int)→Int→Bool→Bool→Option (Bool)
  |0,_,_,_,_,_,_,_,_,_=>none
  |k+1,x1,x5,x6,x7,x8,x11,x12,x13,x109=>if x109=true then (some false) else (if x13=true then ((impl_IsFlow.f k x5 x11).bind fun bt123=>((impl_FlowValue.f k x11).bind fun bt125=>((impl_NextWay.f k x5 x11).bind fun bt127=>(if bt123.2=true then (if bt123.1=true then (if bt125.2=true then (if bt125.1=x12 then (if bt127.2.2=true then (laws_FnFlows.j2 k x1 x6 x7 x8 x12 bt127.2.1) else (laws_FnFlows.j2 k x1 x6 x7 x8 x12 true)) else (laws_FnFlows.j2 k x1 x6 x7 x8 x12 true)) else (laws_FnFlows.j2 k x1 x6 x7 x8 x12 true)) else (laws_FnFlows.j2 k x1 x6 x7 x8 x12 true)) else (laws_FnFlows.j2 k x1 x6 x7 x8 x12 true))))) else (laws_FnFlows.j4 k x1))
def laws_FnFlows.j4:Nat→List Int→Option (Bool)
  |0,_=>none
  |k+1,x1=>(spec_DrawPushWay.f k x1).bind fun bt134=>((impl_PushWay.f k bt134.1 bt134.2.1 bt134.2.2).bind fun bt143=>((spec_PushWay.f k bt134.1 bt134.2.1 bt134.2.2).bind fun bt148=>((impl_NextWay.f k bt134.1 bt134.2.1).bind fun bt153=>((spec_NextWay.f k bt134.1 bt134.2.1).bind fun bt158=>(if (bt143.2.2 != bt148.2.2)=true then (laws_FnFlows.j5 k bt134.1 bt134.2.1 bt143.1 bt143.2.1 bt143.2.2 true) else (if bt143.2.1=bt148.2.1 then ((laws_sameRows.f k bt143.1 bt148.1).bind fun t163=>(if t163=true then (if (bt153.2.2 != bt158.2.2)=true then (laws_FnFlows.j5 k bt134.1 bt134.2.1 bt143.1 bt143.2.1 bt143.2.2 true) else (if (bt153.2.1 != bt158.2.1)=true then (laws_FnFlows.j5 k bt134.1 bt134.2.1 bt143.1 bt143.2.1 bt143.2.2 true) else ((laws_sameInts.f k bt153.1 bt158.1).bind fun t164=>(laws_FnFlows.j5 k bt134.1 bt134.2.1 bt143.1 bt143.2.1 bt143.2.2 (!t164))))) else (laws_FnFlows.j5 k bt134.1 bt134.2.1 bt143.1 bt143.2.1 bt143.2.2 true))) else (laws_FnFlows.j5 k bt134.1 bt134.2.1 bt143.1 bt143.2.1 bt143.2.2 true)))))))
def laws_FnFlows.j5:Nat→List (List Int)→List (List Int)→List (List Int)→Int→Bool→Bool→Option (Bool)
  |0,_,_,_,_,_,_=>none
  |k+1,x26,x27,x29,x30,x31,x232=>if x232=true then (some false) else (if x31=true then ((impl_IsFlow.f k x26 x29).bind fun bt165=>((impl_FlowValue.f k x27).bind fun bt167=>((impl_FlowValue.f k x29).bind fun bt169=>(if bt165.2=true then (if bt165.1=true then (if bt167.2=true then (if bt169.2=true then (if bt169.1=(wrap64 (bt167.1+x30)) then (some (decide (x30 > 0))) else (some false)) else (some false)) else (some false)) else (some false)) else (some false))))) else (some true))
def laws_FnFlows.j2:Nat→List Int→List (List Int)→Bool→Bool→Int→Bool→Option (Bool)
  |0,_,_,_,_,_,_=>none
  |k+1,x1,x6,x7,x8,x12,x150=>if x150=true then (some false) else (if x8=true then (laws_FnFlows.j3 k x1 x6 x12 x7) else (laws_FnFlows.j3 k x1 x6 x12 false))
def laws_FnFlows.j3:Nat→List Int→List (List Int)→Int→Bool→Option (Bool)
  |0,_,_,_,_=>none
  |k+1,x1,x6,x12,x154=>if x154=true then ((impl_FlowValue.f k x6).bind fun bt132=>(if bt132.2=true then (if bt132.1 > x12 then (some false) else (laws_FnFlows.j4 k x1)) else (some false))) else (laws_FnFlows.j4 k x1)
end
def laws_FnFlows.f (k:Nat) (l0:List Int) (l1:List Int):Option (Bool):=if (wrap64 ((l0.length:Int)+(l1.length:Int))) > 1048576 then (some true) else ((spec_DrawIsFlow.f k l0).bind fun bt101=>((impl_IsFlow.f k bt101.1 bt101.2).bind fun bt107=>((spec_IsFlow.f k bt101.1 bt101.2).bind fun bt109=>(if (bt107.2 != bt109.2)=true then (laws_FnFlows.j0 k l1 bt101.1 bt101.2 bt107.1 bt107.2 true) else (if (bt107.1 != bt109.1)=true then (laws_FnFlows.j0 k l1 bt101.1 bt101.2 bt107.1 bt107.2 true) else ((impl_GoodNet.f k bt101.1).bind fun t111=>(laws_FnFlows.j0 k l1 bt101.1 bt101.2 bt107.1 bt107.2 (t111 != bt109.2))))))))
set_option maxHeartbeats 8000000 in
set_option maxRecDepth 100000 in
theorem laws_FnFlows.calls (k:Nat) (A0:Option Addr) (c0:Nat) (l0:List Int) (A1:Option Addr) (c1:Nat) (l1:List Int) (r:Bool) (w:World) (hr0:Kd.C (Kd.int .u8) w A0 l0.length l0) (hc0:l0.length≤c0) (hr1:Kd.C (Kd.int .u8) w A1 l1.length l1) (hc1:l1.length≤c1) (h:laws_FnFlows.f k l0 l1=some r) :
    Calls Try.prog 3 #[.slice A0 l0.length c0,.slice A1 l1.length c1] w fun e w'=>e= .returned (.bool r)∧Below w.heap.size w w':=by
  have HR0:=aM hr0;have HC0:=aM hc0;clear hr0 hc0;have HR1:=aM hr1;have HC1:=aM hc1;clear hr1 hc1;have HB:=aM (Below.refl w.heap.size w);have H:(if (wrap64 ((l0.length:Int)+(l1.length:Int))) > 1048576 then (some true) else ((spec_DrawIsFlow.f k l0).bind fun bt101=>((impl_IsFlow.f k bt101.1 bt101.2).bind fun bt107=>((spec_IsFlow.f k bt101.1 bt101.2).bind fun bt109=>(if (bt107.2 != bt109.2)=true then (laws_FnFlows.j0 k l1 bt101.1 bt101.2 bt107.1 bt107.2 true) else (if (bt107.1 != bt109.1)=true then (laws_FnFlows.j0 k l1 bt101.1 bt101.2 bt107.1 bt107.2 true) else ((impl_GoodNet.f k bt101.1).bind fun t111=>(laws_FnFlows.j0 k l1 bt101.1 bt101.2 bt107.1 bt107.2 (t111 != bt109.2)))))))))=some r:=h;clear h;by_cases c3:(wrap64 ((l0.length:Int)+(l1.length:Int))) > 1048576
  ·rw [if_pos c3] at H;have c3b0:decide (1048576<(wrap64 ((l0.length:Int)+(l1.length:Int))))=true:=decide_eq_true c3;clear c3
   as_aux_lemma=>
    obtain rfl:=Option.some.inj H;go_enter Try.func3,Try.ntmps3;go_wp2
    go_ret
    exact ⟨by first|rfl|(simp [errW_none,errW_some] <;> rfl)|(simp [*,errW_none,errW_some] <;> rfl),by repeat (first|(with_reducible first|exact HB.out|apply Qb|apply Qa|apply Qc)|exact HB.out)⟩
  ·rw [if_neg c3] at H;have c3b0:decide (1048576<(wrap64 ((l0.length:Int)+(l1.length:Int))))=false:=decide_eq_false c3;clear c3;replace H:=Option.bind_eq_some_iff.mp H;obtain ⟨⟨t101,t102⟩,A40,H⟩:=H;replace H:((impl_IsFlow.f k t101 t102).bind fun bt107=>((spec_IsFlow.f k t101 t102).bind fun bt109=>(if (bt107.2 != bt109.2)=true then (laws_FnFlows.j0 k l1 t101 t102 bt107.1 bt107.2 true) else (if (bt107.1 != bt109.1)=true then (laws_FnFlows.j0 k l1 t101 t102 bt107.1 bt107.2 true) else ((impl_GoodNet.f k t101).bind fun t111=>(laws_FnFlows.j0 k l1 t101 t102 bt107.1 bt107.2 (t111 != bt109.2)))))))=some r:=H;have A4:=aM A40;clear A40;replace H:=Option.bind_eq_some_iff.mp H;obtain ⟨⟨t107,t108⟩,A50,H⟩:=H;replace H:((spec_IsFlow.f k t101 t102).bind fun bt109=>(if (t108 != bt109.2)=true then (laws_FnFlows.j0 k l1 t101 t102 t107 t108 true) else (if (t107 != bt109.1)=true then (laws_FnFlows.j0 k l1 t101 t102 t107 t108 true) else ((impl_GoodNet.f k t101).bind fun t111=>(laws_FnFlows.j0 k l1 t101 t102 t107 t108 (t111 != bt109.2))))))=some r:=H;have A5:=aM A50;clear A50;replace H:=Option.bind_eq_some_iff.mp H;obtain ⟨⟨t109,t110⟩,A60,H⟩:=H;replace H:(if (t108 != t110)=true then (laws_FnFlows.j0 k l1 t101 t102 t107 t108 true) else (if (t107 != t109)=true then (laws_FnFlows.j0 k l1 t101 t102 t107 t108 true) else ((impl_GoodNet.f k t101).bind fun t111=>(laws_FnFlows.j0 k l1 t101 t102 t107 t108 (t111 != t110)))))=some r:=H;have A6:=aM A60;clear A60;have HC7:=aM H;clear H;go_enter Try.func3,Try.ntmps3
   go_upto_region 6 with (first|((with_reducible refine Qj (f:=15) rfl ?_);refine goesL_ (some 55) rfl rfl Try.func15 (by kernel_rfl) rfl #[.slice A0 l0.length c0] rfl (by (try simp only [aD,aE,aF]);first|done|rfl|(simp only [aG,aH];rfl)) ?_;(with_reducible refine (spec_DrawIsFlow.calls k _ _ l0 t101 t102 _ ?side1 ?side2 A4.out).mono ?_);(case side1=>repeat (first|exact HR0.out|(with_reducible refine Kd.Qd ?_ _)|(with_reducible refine Kd.Qe ?_ _)|(with_reducible refine Kd.C_drew ?_)));(case side2=>exact HC0.out);rintro e w8 ⟨v103,v105,rfl,ho0,ho1,hb⟩;refine ⟨_,rfl,?_⟩;have n0_:=aM (Kd.S_lower ho0 (Qm (by repeat (first|(with_reducible first|exact HB.out|apply Qb|apply Qa|apply Qc)|exact HB.out))));have n1_:=aM (Kd.S_lower ho1 (Qm (by repeat (first|(with_reducible first|exact HB.out|apply Qb|apply Qa|apply Qc)|exact HB.out))));have n2_:=aM (Qi (by repeat (first|(with_reducible first|exact HB.out|apply Qb|apply Qa|apply Qc)|exact HB.out)) hb);clear HB;have HO104:=n0_;have HO106:=n1_;have HB:=n2_;clear n0_ n1_ n2_;(try clear hb);(try clear hb2);(try clear hk);(try clear hi);(try clear ho0);(try clear ho1);obtain ⟨Ao9,co9,eo9⟩:=Kd.S_slice HO104.out;subst eo9;obtain ⟨Ao10,co10,eo10⟩:=Kd.S_slice HO106.out;subst eo10)|((with_reducible refine Qj (f:=16) rfl ?_);refine goesL_ (some 61) rfl rfl Try.func16 (by kernel_rfl) rfl #[.slice Ao9 t101.length co9,.slice Ao10 t102.length co10] rfl (by (try simp only [aD,aE,aF]);first|done|rfl|(simp only [aG,aH];rfl)) ?_;(with_reducible refine (impl_IsFlow.calls k _ _ t101 _ _ t102 t107 t108 _ ?side1 ?side2 ?side3 ?side4 A5.out).mono ?_);(case side1=>repeat (first|exact (Kd.Qf HO104.out).2.2|(with_reducible refine Kd.Qd ?_ _)|(with_reducible refine Kd.Qe ?_ _)|(with_reducible refine Kd.C_drew ?_)));(case side2=>exact (Kd.Qf HO104.out).2.1);(case side3=>repeat (first|exact (Kd.Qf HO106.out).2.2|(with_reducible refine Kd.Qd ?_ _)|(with_reducible refine Kd.Qe ?_ _)|(with_reducible refine Kd.C_drew ?_)));(case side4=>exact (Kd.Qf HO106.out).2.1);rintro e w11 ⟨rfl,hb⟩;refine ⟨_,rfl,?_⟩;have n0_:=aM (Kd.S_below (by (with_reducible repeat (first|apply Kd.Qh|apply Kd.Qg|apply Kd.S_drew));exact HO104.out) hb);have n1_:=aM (Kd.S_below (by (with_reducible repeat (first|apply Kd.Qh|apply Kd.Qg|apply Kd.S_drew));exact HO106.out) hb);have n2_:=aM (Qi (by repeat (first|(with_reducible first|exact HB.out|apply Qb|apply Qa|apply Qc)|exact HB.out)) hb);clear HO104;clear HO106;clear HB;have HO104:=n0_;have HO106:=n1_;have HB:=n2_;clear n0_ n1_ n2_;(try clear hb);(try clear hb2);(try clear hk);(try clear hi))|((with_reducible refine Qj (f:=17) rfl ?_);refine goesL_ (some 67) rfl rfl Try.func17 (by kernel_rfl) rfl #[.slice Ao9 t101.length co9,.slice Ao10 t102.length co10] rfl (by (try simp only [aD,aE,aF]);first|done|rfl|(simp only [aG,aH];rfl)) ?_;(with_reducible refine (spec_IsFlow.calls k _ _ t101 _ _ t102 t109 t110 _ ?side1 ?side2 ?side3 ?side4 A6.out).mono ?_);(case side1=>repeat (first|exact (Kd.Qf HO104.out).2.2|(with_reducible refine Kd.Qd ?_ _)|(with_reducible refine Kd.Qe ?_ _)|(with_reducible refine Kd.C_drew ?_)));(case side2=>exact (Kd.Qf HO104.out).2.1);(case side3=>repeat (first|exact (Kd.Qf HO106.out).2.2|(with_reducible refine Kd.Qd ?_ _)|(with_reducible refine Kd.Qe ?_ _)|(with_reducible refine Kd.C_drew ?_)));(case side4=>exact (Kd.Qf HO106.out).2.1);rintro e w' ⟨rfl,⟨nd,rfl⟩⟩;refine ⟨_,rfl,?_⟩))
   (try simp only [Act.put,aA,aB,aC])
   go_cut [83] (fun v83 wc=>∃ (kq:Nat) (x83_6:Bool),v83= .bool x83_6∧Aside0 (laws_FnFlows.j0 kq l1 t101 t102 t107 t108 x83_6=some r)∧Aside0 (kq≤k)∧Aside0 (Kd.S (Kd.slice 3 (Kd.int .i64)) 34 wc w.heap.size (fun k_=>some k_≠((.slice Ao10 t102.length co10):Value).ownBlock) (.slice Ao9 t101.length co9) t101)∧Aside0 (Kd.S (Kd.slice 3 (Kd.int .i64)) 34 wc w.heap.size (fun k_=>some k_≠((.slice Ao9 t101.length co9):Value).ownBlock) (.slice Ao10 t102.length co10) t102)∧Aside0 (Below w.heap.size w wc))
   case first=>
    have H:=HC7.out;clear HC7;by_cases c12:(t108 != t110)=true
    ·rw [if_pos c12] at H;have c12b0:(t108 != t110)=true:=c12;(try (have c12b1:decide (t108=t110)=false:=by simpa using c12));(try (have c12b2:(t108 == t110)=false:=by simpa using c12));(try (have c12b3: ¬ (t108=t110):=by simpa using c12));clear c12
     (first|rw [c12b0]|(simp only [i64_w,i32_w];rw [c12b0])|skip)
     as_aux_lemma=>
      have H':=aM H;clear H;go_wp2
      go_meet
      case rel=>exact ⟨_,(true),(by first|rfl|(simp;done)|(simp [*];done)),H',⟨by first|omega|exact Nat.le_refl _⟩,⟨by (with_reducible repeat (first|apply Kd.Qh|apply Kd.Qg|apply Kd.S_drew));exact HO104.out⟩,⟨by (with_reducible repeat (first|apply Kd.Qh|apply Kd.Qg|apply Kd.S_drew));exact HO106.out⟩,⟨by repeat (first|(with_reducible first|exact HB.out|apply Qb|apply Qa|apply Qc)|exact HB.out)⟩⟩
    ·rw [if_neg c12] at H;have c12b0:(t108 != t110)=false:=by simpa using c12
     (try (have c12b1:decide (t108=t110)=true:=by simpa using c12));(try (have c12b2:(t108 == t110)=true:=by simpa using c12));clear c12
     (first|rw [c12b0]|(simp only [i64_w,i32_w];rw [c12b0])|skip)
     by_cases c13:(t107 != t109)=true
     ·rw [if_pos c13] at H;have c13b0:(t107 != t109)=true:=c13;(try (have c13b1:decide (t107=t109)=false:=by simpa using c13));(try (have c13b2:(t107 == t109)=false:=by simpa using c13));(try (have c13b3: ¬ (t107=t109):=by simpa using c13));clear c13
      as_aux_lemma=>
       have H':=aM H;clear H;go_wp2
       go_meet
       case rel=>exact ⟨_,(true),(by first|rfl|(simp;done)|(simp [*];done)),H',⟨by first|omega|exact Nat.le_refl _⟩,⟨by (with_reducible repeat (first|apply Kd.Qh|apply Kd.Qg|apply Kd.S_drew));exact HO104.out⟩,⟨by (with_reducible repeat (first|apply Kd.Qh|apply Kd.Qg|apply Kd.S_drew));exact HO106.out⟩,⟨by repeat (first|(with_reducible first|exact HB.out|apply Qb|apply Qa|apply Qc)|exact HB.out)⟩⟩
     ·rw [if_neg c13] at H;have c13b0:(t107 != t109)=false:=by simpa using c13
      (try (have c13b1:decide (t107=t109)=true:=by simpa using c13));(try (have c13b2:(t107 == t109)=true:=by simpa using c13));clear c13;replace H:=Option.bind_eq_some_iff.mp H;obtain ⟨t111,A140,H⟩:=H;replace H:(laws_FnFlows.j0 k l1 t101 t102 t107 t108 (t111 != t110))=some r:=H;have A14:=aM A140;clear A140
      as_aux_lemma=>
       have H':=aM H;clear H;go_wp2_with (first|(go_at_call 18;(with_reducible refine (impl_GoodNet.calls k _ _ t101 t111 _ ?side1 ?side2 A14.out).mono ?_);(case side1=>repeat (first|exact (Kd.Qf HO104.out).2.2|(with_reducible refine Kd.Qd ?_ _)|(with_reducible refine Kd.Qe ?_ _)|(with_reducible refine Kd.C_drew ?_)));(case side2=>exact (Kd.Qf HO104.out).2.1);rintro e w15 ⟨rfl,hb⟩;have n0_:=aM (Kd.S_below (by (with_reducible repeat (first|apply Kd.Qh|apply Kd.Qg|apply Kd.S_drew));exact HO104.out) hb);have n1_:=aM (Kd.S_below (by (with_reducible repeat (first|apply Kd.Qh|apply Kd.Qg|apply Kd.S_drew));exact HO106.out) hb);have n2_:=aM (Qi (by repeat (first|(with_reducible first|exact HB.out|apply Qb|apply Qa|apply Qc)|exact HB.out)) hb);clear HO104;clear HO106;clear HB;have HO104:=n0_;have HO106:=n1_;have HB:=n2_;clear n0_ n1_ n2_;(try clear hb);(try clear hb2);(try clear hk);(try clear hi)))
       go_meet
       case rel=>exact ⟨_,((t111 != t110)),(by first|rfl|(simp;done)|(simp [*];done)),H',⟨by first|omega|exact Nat.le_refl _⟩,⟨by (with_reducible repeat (first|apply Kd.Qh|apply Kd.Qg|apply Kd.S_drew));exact HO104.out⟩,⟨by (with_reducible repeat (first|apply Kd.Qh|apply Kd.Qg|apply Kd.S_drew));exact HO106.out⟩,⟨by repeat (first|(with_reducible first|exact HB.out|apply Qb|apply Qa|apply Qc)|exact HB.out)⟩⟩
   case rest=>
    clear HC7;(try clear c1);(try clear p2);(try clear c3);(try clear c3b0);(try clear p6);(try clear c12);(try clear c12b0);(try clear c12b1);(try clear c12b2);(try clear c13);(try clear c13b0);(try clear c13b1);(try clear c13b2);(try clear c15);obtain ⟨kq,x83_6,rfl,HA,HJ6,HO_5,HO_6,HB⟩:=hcut
    cases kq with
    |zero=>exact absurd HA.out (by simp [laws_FnFlows.j0])
    |succ kj6=>
     have H:=HA.out;clear HA;simp only [laws_FnFlows.j0] at H;by_cases c16:x83_6=true
     ·subst c16;have H1:(some false)=some r:=by rw [if_pos rfl] at H;exact H
      clear H;have H:=H1;clear H1
      as_aux_lemma=>
       obtain rfl:=Option.some.inj H;go_wp2
       go_ret
       exact ⟨by first|rfl|(simp [errW_none,errW_some] <;> rfl)|(simp [*,errW_none,errW_some] <;> rfl),by repeat (first|(with_reducible first|exact HB.out|apply Qb|apply Qa|apply Qc)|exact HB.out)⟩
     ·replace c16:=Bool.eq_false_iff.mpr c16;subst c16;have H1:((impl_MostFlow.f kj6 t101).bind fun bt112=>((spec_MostFlow.f kj6 t101).bind fun bt117=>(if (bt112.2.2 != bt117.2.2)=true then (laws_FnFlows.j1 kj6 l1 t101 t102 t107 t108 bt112.1 bt112.2.1 bt112.2.2 true) else ((laws_sameRows.f kj6 bt112.1 bt117.1).bind fun t122=>(if t122=true then (laws_FnFlows.j1 kj6 l1 t101 t102 t107 t108 bt112.1 bt112.2.1 bt112.2.2 (bt112.2.1 != bt117.2.1)) else (laws_FnFlows.j1 kj6 l1 t101 t102 t107 t108 bt112.1 bt112.2.1 bt112.2.2 true))))))=some r:=by rw [if_neg (show ¬ (false=true) by decide)] at H;exact H
      clear H;have H:=H1;clear H1;replace H:=Option.bind_eq_some_iff.mp H;obtain ⟨⟨t112,t113,t114⟩,A170,H⟩:=H;replace H:((spec_MostFlow.f kj6 t101).bind fun bt117=>(if (t114 != bt117.2.2)=true then (laws_FnFlows.j1 kj6 l1 t101 t102 t107 t108 t112 t113 t114 true) else ((laws_sameRows.f kj6 t112 bt117.1).bind fun t122=>(if t122=true then (laws_FnFlows.j1 kj6 l1 t101 t102 t107 t108 t112 t113 t114 (t113 != bt117.2.1)) else (laws_FnFlows.j1 kj6 l1 t101 t102 t107 t108 t112 t113 t114 true)))))=some r:=H;have A17:=aM A170;clear A170;replace H:=Option.bind_eq_some_iff.mp H;obtain ⟨⟨t117,t118,t119⟩,A180,H⟩:=H;replace H:(if (t114 != t119)=true then (laws_FnFlows.j1 kj6 l1 t101 t102 t107 t108 t112 t113 t114 true) else ((laws_sameRows.f kj6 t112 t117).bind fun t122=>(if t122=true then (laws_FnFlows.j1 kj6 l1 t101 t102 t107 t108 t112 t113 t114 (t113 != t118)) else (laws_FnFlows.j1 kj6 l1 t101 t102 t107 t108 t112 t113 t114 true))))=some r:=H;have A18:=aM A180;clear A180;have HC19:=aM H;clear H
      go_upto_region 10 with (first|((with_reducible refine Qj (f:=19) rfl ?_);refine goesL_ (some 86) rfl rfl Try.func19 (by kernel_rfl) rfl #[.slice Ao9 t101.length co9] rfl (by (try simp only [aD,aE,aF]);first|done|rfl|(simp only [aG,aH];rfl)) ?_;(with_reducible refine (impl_MostFlow.calls kj6 _ _ t101 t112 t113 t114 _ ?side1 ?side2 A17.out).mono ?_);(case side1=>repeat (first|exact (Kd.Qf HO_5.out).2.2|(with_reducible refine Kd.Qd ?_ _)|(with_reducible refine Kd.Qe ?_ _)|(with_reducible refine Kd.C_drew ?_)));(case side2=>exact (Kd.Qf HO_5.out).2.1);rintro e w20 ⟨v115,rfl,ho0,hb⟩;refine ⟨_,rfl,?_⟩;have n0_:=aM (Kd.S_elder' (by (with_reducible repeat (first|apply Kd.Qh|apply Kd.Qg|apply Kd.S_drew));exact HO_5.out) (Kd.S_base ho0) hb);have n1_:=aM (Kd.S_elder' (by (with_reducible repeat (first|apply Kd.Qh|apply Kd.Qg|apply Kd.S_drew));exact HO_6.out) (Kd.S_base ho0) hb);have n2_:=aM (Kd.S_lower (Kd.S_new' (Kd.S_new' ho0 (Kd.S_lt (by (with_reducible repeat (first|apply Kd.Qh|apply Kd.Qg|apply Kd.S_drew));exact HO_5.out))) (Kd.S_lt (by (with_reducible repeat (first|apply Kd.Qh|apply Kd.Qg|apply Kd.S_drew));exact HO_6.out))) (Qm (by repeat (first|(with_reducible first|exact HB.out|apply Qb|apply Qa|apply Qc)|exact HB.out))));have n3_:=aM (Qi (by repeat (first|(with_reducible first|exact HB.out|apply Qb|apply Qa|apply Qc)|exact HB.out)) hb);clear HO_5;clear HO_6;clear HB;have HO_5:=n0_;have HO_6:=n1_;have HO116:=n2_;have HB:=n3_;clear n0_ n1_ n2_ n3_;(try clear hb);(try clear hb2);(try clear hk);(try clear hi);(try clear ho0))|((with_reducible refine Qj (f:=20) rfl ?_);refine goesL_ (some 92) rfl rfl Try.func20 (by kernel_rfl) rfl #[.slice Ao9 t101.length co9] rfl (by (try simp only [aD,aE,aF]);first|done|rfl|(simp only [aG,aH];rfl)) ?_;(with_reducible refine (spec_MostFlow.calls kj6 _ _ t101 t117 t118 t119 _ ?side1 ?side2 A18.out).mono ?_);(case side1=>repeat (first|exact (Kd.Qf HO_5.out).2.2|(with_reducible refine Kd.Qd ?_ _)|(with_reducible refine Kd.Qe ?_ _)|(with_reducible refine Kd.C_drew ?_)));(case side2=>exact (Kd.Qf HO_5.out).2.1);rintro e w21 ⟨v120,rfl,ho0,hb⟩;refine ⟨_,rfl,?_⟩;have n0_:=aM (Kd.S_elder' (by (with_reducible repeat (first|apply Kd.Qh|apply Kd.Qg|apply Kd.S_drew));exact HO_5.out) (Kd.S_base ho0) hb);have n1_:=aM (Kd.S_elder' (by (with_reducible repeat (first|apply Kd.Qh|apply Kd.Qg|apply Kd.S_drew));exact HO_6.out) (Kd.S_base ho0) hb);have n2_:=aM (Kd.S_elder' (by (with_reducible repeat (first|apply Kd.Qh|apply Kd.Qg|apply Kd.S_drew));exact HO116.out) (Kd.S_base ho0) hb);have n3_:=aM (Kd.S_lower (Kd.S_new' (Kd.S_new' (Kd.S_new' ho0 (Kd.S_lt (by (with_reducible repeat (first|apply Kd.Qh|apply Kd.Qg|apply Kd.S_drew));exact HO_5.out))) (Kd.S_lt (by (with_reducible repeat (first|apply Kd.Qh|apply Kd.Qg|apply Kd.S_drew));exact HO_6.out))) (Kd.S_lt (by (with_reducible repeat (first|apply Kd.Qh|apply Kd.Qg|apply Kd.S_drew));exact HO116.out))) (Qm (by repeat (first|(with_reducible first|exact HB.out|apply Qb|apply Qa|apply Qc)|exact HB.out))));have n4_:=aM (Qi (by repeat (first|(with_reducible first|exact HB.out|apply Qb|apply Qa|apply Qc)|exact HB.out)) hb);clear HO_5;clear HO_6;clear HO116;clear HB;have HO_5:=n0_;have HO_6:=n1_;have HO116:=n2_;have HO121:=n3_;have HB:=n4_;clear n0_ n1_ n2_ n3_ n4_;(try clear hb);(try clear hb2);(try clear hk);(try clear hi);(try clear ho0)))
      (try simp only [Act.put,aA,aB,aC])
      go_cut [109] (fun v109 wc=>∃ (kq:Nat) (x109_18:Bool),v109= .bool x109_18∧Aside0 (laws_FnFlows.j1 kq l1 t101 t102 t107 t108 t112 t113 t114 x109_18=some r)∧Aside0 (kq≤kj6)∧Aside0 (Kd.S (Kd.slice 3 (Kd.int .i64)) 34 wc w.heap.size (fun k_=>some k_≠((.slice Ao10 t102.length co10):Value).ownBlock∧some k_≠(v115:Value).ownBlock) (.slice Ao9 t101.length co9) t101)∧Aside0 (Kd.S (Kd.slice 3 (Kd.int .i64)) 34 wc w.heap.size (fun k_=>some k_≠((.slice Ao9 t101.length co9):Value).ownBlock∧some k_≠(v115:Value).ownBlock) (.slice Ao10 t102.length co10) t102)∧Aside0 (Kd.S (Kd.slice 3 (Kd.int .i64)) 34 wc w.heap.size (fun k_=>some k_≠((.slice Ao9 t101.length co9):Value).ownBlock∧some k_≠((.slice Ao10 t102.length co10):Value).ownBlock) v115 t112)∧Aside0 (Below w.heap.size w wc))
      case first=>
       have H:=HC19.out;clear HC19;by_cases c22:(t114 != t119)=true
       ·rw [if_pos c22] at H;have c22b0:(t114 != t119)=true:=c22;(try (have c22b1:decide (t114=t119)=false:=by simpa using c22));(try (have c22b2:(t114 == t119)=false:=by simpa using c22));(try (have c22b3: ¬ (t114=t119):=by simpa using c22));clear c22
        (first|rw [c22b0]|(simp only [i64_w,i32_w];rw [c22b0])|skip)
        as_aux_lemma=>
         have H':=aM H;clear H;go_wp2
         go_meet
         case rel=>exact ⟨_,(true),(by first|rfl|(simp;done)|(simp [*];done)),H',⟨by have:=HJ6.out;first|omega|exact Nat.le_refl _⟩,⟨by (with_reducible repeat (first|apply Kd.Qh|apply Kd.Qg|apply Kd.S_drew));exact Kd.S_mono HO_5.out (fun _ hk=>⟨hk.1.1,hk.1.2⟩)⟩,⟨by (with_reducible repeat (first|apply Kd.Qh|apply Kd.Qg|apply Kd.S_drew));exact Kd.S_mono HO_6.out (fun _ hk=>⟨hk.1.1,hk.1.2⟩)⟩,⟨by (with_reducible repeat (first|apply Kd.Qh|apply Kd.Qg|apply Kd.S_drew));exact Kd.S_mono HO116.out (fun _ hk=>⟨hk.1.1.2,hk.1.2⟩)⟩,⟨by repeat (first|(with_reducible first|exact HB.out|apply Qb|apply Qa|apply Qc)|exact HB.out)⟩⟩
       ·rw [if_neg c22] at H;have c22b0:(t114 != t119)=false:=by simpa using c22
        (try (have c22b1:decide (t114=t119)=true:=by simpa using c22));(try (have c22b2:(t114 == t119)=true:=by simpa using c22));clear c22
        (first|rw [c22b0]|(simp only [i64_w,i32_w];rw [c22b0])|skip)
        replace H:=Option.bind_eq_some_iff.mp H;obtain ⟨t122,A230,H⟩:=H;replace H:(if t122=true then (laws_FnFlows.j1 kj6 l1 t101 t102 t107 t108 t112 t113 t114 (t113 != t118)) else (laws_FnFlows.j1 kj6 l1 t101 t102 t107 t108 t112 t113 t114 true))=some r:=H;have A23:=aM A230;clear A230;by_cases c24:t122=true
        ·subst c24;have H1:(laws_FnFlows.j1 kj6 l1 t101 t102 t107 t108 t112 t113 t114 (t113 != t118))=some r:=by rw [if_pos rfl] at H;exact H
         clear H;have H:=H1;clear H1
         as_aux_lemma=>
          have H':=aM H;clear H;obtain ⟨Ao25,co25,eo25⟩:=Kd.S_slice HO116.out;subst eo25;obtain ⟨Ao26,co26,eo26⟩:=Kd.S_slice HO121.out;subst eo26;go_wp2_with (first|(go_at_call 21;(with_reducible refine (laws_sameRows.calls kj6 _ _ t112 _ _ t117 true _ ?side1 ?side2 ?side3 ?side4 A23.out).mono ?_);(case side1=>repeat (first|exact (Kd.Qf HO116.out).2.2|(with_reducible refine Kd.Qd ?_ _)|(with_reducible refine Kd.Qe ?_ _)|(with_reducible refine Kd.C_drew ?_)));(case side2=>exact (Kd.Qf HO116.out).2.1);(case side3=>repeat (first|exact (Kd.Qf HO121.out).2.2|(with_reducible refine Kd.Qd ?_ _)|(with_reducible refine Kd.Qe ?_ _)|(with_reducible refine Kd.C_drew ?_)));(case side4=>exact (Kd.Qf HO121.out).2.1);rintro e w' ⟨rfl,⟨nd,rfl⟩⟩))
          go_meet
          case rel=>exact ⟨_,((t113 != t118)),(by first|rfl|(simp;done)|(simp [*];done)),H',⟨by have:=HJ6.out;first|omega|exact Nat.le_refl _⟩,⟨by (with_reducible repeat (first|apply Kd.Qh|apply Kd.Qg|apply Kd.S_drew));exact Kd.S_mono HO_5.out (fun _ hk=>⟨hk.1.1,hk.1.2⟩)⟩,⟨by (with_reducible repeat (first|apply Kd.Qh|apply Kd.Qg|apply Kd.S_drew));exact Kd.S_mono HO_6.out (fun _ hk=>⟨hk.1.1,hk.1.2⟩)⟩,⟨by (with_reducible repeat (first|apply Kd.Qh|apply Kd.Qg|apply Kd.S_drew));exact Kd.S_mono HO116.out (fun _ hk=>⟨hk.1.1.2,hk.1.2⟩)⟩,⟨by repeat (first|(with_reducible first|exact HB.out|apply Qb|apply Qa|apply Qc)|exact HB.out)⟩⟩
        ·replace c24:=Bool.eq_false_iff.mpr c24;subst c24;have H1:(laws_FnFlows.j1 kj6 l1 t101 t102 t107 t108 t112 t113 t114 true)=some r:=by rw [if_neg (show ¬ (false=true) by decide)] at H;exact H
         clear H;have H:=H1;clear H1
         as_aux_lemma=>
          have H':=aM H;clear H;obtain ⟨Ao27,co27,eo27⟩:=Kd.S_slice HO116.out;subst eo27;obtain ⟨Ao28,co28,eo28⟩:=Kd.S_slice HO121.out;subst eo28;go_wp2_with (first|(go_at_call 21;(with_reducible refine (laws_sameRows.calls kj6 _ _ t112 _ _ t117 false _ ?side1 ?side2 ?side3 ?side4 A23.out).mono ?_);(case side1=>repeat (first|exact (Kd.Qf HO116.out).2.2|(with_reducible refine Kd.Qd ?_ _)|(with_reducible refine Kd.Qe ?_ _)|(with_reducible refine Kd.C_drew ?_)));(case side2=>exact (Kd.Qf HO116.out).2.1);(case side3=>repeat (first|exact (Kd.Qf HO121.out).2.2|(with_reducible refine Kd.Qd ?_ _)|(with_reducible refine Kd.Qe ?_ _)|(with_reducible refine Kd.C_drew ?_)));(case side4=>exact (Kd.Qf HO121.out).2.1);rintro e w' ⟨rfl,⟨nd,rfl⟩⟩))
          go_meet
          case rel=>exact ⟨_,(true),(by first|rfl|(simp;done)|(simp [*];done)),H',⟨by have:=HJ6.out;first|omega|exact Nat.le_refl _⟩,⟨by (with_reducible repeat (first|apply Kd.Qh|apply Kd.Qg|apply Kd.S_drew));exact Kd.S_mono HO_5.out (fun _ hk=>⟨hk.1.1,hk.1.2⟩)⟩,⟨by (with_reducible repeat (first|apply Kd.Qh|apply Kd.Qg|apply Kd.S_drew));exact Kd.S_mono HO_6.out (fun _ hk=>⟨hk.1.1,hk.1.2⟩)⟩,⟨by (with_reducible repeat (first|apply Kd.Qh|apply Kd.Qg|apply Kd.S_drew));exact Kd.S_mono HO116.out (fun _ hk=>⟨hk.1.1.2,hk.1.2⟩)⟩,⟨by repeat (first|(with_reducible first|exact HB.out|apply Qb|apply Qa|apply Qc)|exact HB.out)⟩⟩
      case rest=>
       clear HC19;(try clear c1);(try clear c2);(try clear p2);(try clear c3);(try clear c3b0);(try clear p6);(try clear c12);(try clear c12b0);(try clear c12b1);(try clear c12b2);(try clear c13);(try clear c13b0);(try clear c13b1);(try clear c13b2);(try clear c15);(try clear c16);(try clear c17);(try clear c19);(try clear c20);(try clear c22);(try clear c22b0);(try clear c22b1);(try clear c22b2);(try clear c24);(try clear p2);(try clear p6);obtain ⟨kq,x109_18,rfl,HA,HJ18,HO_5,HO_6,HO_11,HB⟩:=hcut
       cases kq with
       |zero=>exact absurd HA.out (by simp [laws_FnFlows.j1])
       |succ kj18=>
        have H:=HA.out;clear HA;simp only [laws_FnFlows.j1] at H;by_cases c29:x109_18=true
        ·subst c29;have H1:(some false)=some r:=by rw [if_pos rfl] at H;exact H
         clear H;have H:=H1;clear H1
         as_aux_lemma=>
          obtain rfl:=Option.some.inj H;go_wp2
          go_ret
          exact ⟨by first|rfl|(simp [errW_none,errW_some] <;> rfl)|(simp [*,errW_none,errW_some] <;> rfl),by repeat (first|(with_reducible first|exact HB.out|apply Qb|apply Qa|apply Qc)|exact HB.out)⟩
        ·replace c29:=Bool.eq_false_iff.mpr c29;subst c29;have H1:(if t114=true then ((impl_IsFlow.f kj18 t101 t112).bind fun bt123=>((impl_FlowValue.f kj18 t112).bind fun bt125=>((impl_NextWay.f kj18 t101 t112).bind fun bt127=>(if bt123.2=true then (if bt123.1=true then (if bt125.2=true then (if bt125.1=t113 then (if bt127.2.2=true then (laws_FnFlows.j2 kj18 l1 t102 t107 t108 t113 bt127.2.1) else (laws_FnFlows.j2 kj18 l1 t102 t107 t108 t113 true)) else (laws_FnFlows.j2 kj18 l1 t102 t107 t108 t113 true)) else (laws_FnFlows.j2 kj18 l1 t102 t107 t108 t113 true)) else (laws_FnFlows.j2 kj18 l1 t102 t107 t108 t113 true)) else (laws_FnFlows.j2 kj18 l1 t102 t107 t108 t113 true))))) else (laws_FnFlows.j4 kj18 l1))=some r:=by rw [if_neg (show ¬ (false=true) by decide)] at H;exact H
         clear H;have H:=H1;clear H1;have HC30:=aM H;clear H
         go_upto_if 110 with (fail)
         go_cut [] (fun wc=>∃ (kq:Nat),Aside0 (laws_FnFlows.j4 kq l1=some r)∧Aside0 (kq≤kj18)∧Aside0 (Below w.heap.size w wc))
         case first=>
          have H:=HC30.out;clear HC30;by_cases c31:t114=true
          ·subst c31;have H1:((impl_IsFlow.f kj18 t101 t112).bind fun bt123=>((impl_FlowValue.f kj18 t112).bind fun bt125=>((impl_NextWay.f kj18 t101 t112).bind fun bt127=>(if bt123.2=true then (if bt123.1=true then (if bt125.2=true then (if bt125.1=t113 then (if bt127.2.2=true then (laws_FnFlows.j2 kj18 l1 t102 t107 t108 t113 bt127.2.1) else (laws_FnFlows.j2 kj18 l1 t102 t107 t108 t113 true)) else (laws_FnFlows.j2 kj18 l1 t102 t107 t108 t113 true)) else (laws_FnFlows.j2 kj18 l1 t102 t107 t108 t113 true)) else (laws_FnFlows.j2 kj18 l1 t102 t107 t108 t113 true)) else (laws_FnFlows.j2 kj18 l1 t102 t107 t108 t113 true)))))=some r:=by rw [if_pos rfl] at H;exact H
           clear H;have H:=H1;clear H1;replace H:=Option.bind_eq_some_iff.mp H;obtain ⟨⟨t123,t124⟩,A320,H⟩:=H;replace H:((impl_FlowValue.f kj18 t112).bind fun bt125=>((impl_NextWay.f kj18 t101 t112).bind fun bt127=>(if t124=true then (if t123=true then (if bt125.2=true then (if bt125.1=t113 then (if bt127.2.2=true then (laws_FnFlows.j2 kj18 l1 t102 t107 t108 t113 bt127.2.1) else (laws_FnFlows.j2 kj18 l1 t102 t107 t108 t113 true)) else (laws_FnFlows.j2 kj18 l1 t102 t107 t108 t113 true)) else (laws_FnFlows.j2 kj18 l1 t102 t107 t108 t113 true)) else (laws_FnFlows.j2 kj18 l1 t102 t107 t108 t113 true)) else (laws_FnFlows.j2 kj18 l1 t102 t107 t108 t113 true))))=some r:=H;have A32:=aM A320;clear A320;replace H:=Option.bind_eq_some_iff.mp H;obtain ⟨⟨t125,t126⟩,A330,H⟩:=H;replace H:((impl_NextWay.f kj18 t101 t112).bind fun bt127=>(if t124=true then (if t123=true then (if t126=true then (if t125=t113 then (if bt127.2.2=true then (laws_FnFlows.j2 kj18 l1 t102 t107 t108 t113 bt127.2.1) else (laws_FnFlows.j2 kj18 l1 t102 t107 t108 t113 true)) else (laws_FnFlows.j2 kj18 l1 t102 t107 t108 t113 true)) else (laws_FnFlows.j2 kj18 l1 t102 t107 t108 t113 true)) else (laws_FnFlows.j2 kj18 l1 t102 t107 t108 t113 true)) else (laws_FnFlows.j2 kj18 l1 t102 t107 t108 t113 true)))=some r:=H;have A33:=aM A330;clear A330;replace H:=Option.bind_eq_some_iff.mp H;obtain ⟨⟨t127,t128,t129⟩,A340,H⟩:=H;replace H:(if t124=true then (if t123=true then (if t126=true then (if t125=t113 then (if t129=true then (laws_FnFlows.j2 kj18 l1 t102 t107 t108 t113 t128) else (laws_FnFlows.j2 kj18 l1 t102 t107 t108 t113 true)) else (laws_FnFlows.j2 kj18 l1 t102 t107 t108 t113 true)) else (laws_FnFlows.j2 kj18 l1 t102 t107 t108 t113 true)) else (laws_FnFlows.j2 kj18 l1 t102 t107 t108 t113 true)) else (laws_FnFlows.j2 kj18 l1 t102 t107 t108 t113 true))=some r:=H;have A34:=aM A340;clear A340;have HC35:=aM H;clear H;obtain ⟨Ao36,co36,eo36⟩:=Kd.S_slice HO_11.out;subst eo36
           go_upto_region 16 with (first|((with_reducible refine Qj (f:=16) rfl ?_);refine goesL_ (some 114) rfl rfl Try.func16 (by kernel_rfl) rfl #[.slice Ao9 t101.length co9,.slice Ao36 t112.length co36] rfl (by (try simp only [aD,aE,aF]);first|done|rfl|(simp only [aG,aH];rfl)) ?_;(with_reducible refine (impl_IsFlow.calls kj18 _ _ t101 _ _ t112 t123 t124 _ ?side1 ?side2 ?side3 ?side4 A32.out).mono ?_);(case side1=>repeat (first|exact (Kd.Qf HO_5.out).2.2|(with_reducible refine Kd.Qd ?_ _)|(with_reducible refine Kd.Qe ?_ _)|(with_reducible refine Kd.C_drew ?_)));(case side2=>exact (Kd.Qf HO_5.out).2.1);(case side3=>repeat (first|exact (Kd.Qf HO_11.out).2.2|(with_reducible refine Kd.Qd ?_ _)|(with_reducible refine Kd.Qe ?_ _)|(with_reducible refine Kd.C_drew ?_)));(case side4=>exact (Kd.Qf HO_11.out).2.1);rintro e w37 ⟨rfl,hb⟩;refine ⟨_,rfl,?_⟩;have n0_:=aM (Kd.S_below (by (with_reducible repeat (first|apply Kd.Qh|apply Kd.Qg|apply Kd.S_drew));exact HO_5.out) hb);have n1_:=aM (Kd.S_below (by (with_reducible repeat (first|apply Kd.Qh|apply Kd.Qg|apply Kd.S_drew));exact HO_6.out) hb);have n2_:=aM (Kd.S_below (by (with_reducible repeat (first|apply Kd.Qh|apply Kd.Qg|apply Kd.S_drew));exact HO_11.out) hb);have n3_:=aM (Qi (by repeat (first|(with_reducible first|exact HB.out|apply Qb|apply Qa|apply Qc)|exact HB.out)) hb);clear HO_5;clear HO_6;clear HO_11;clear HB;have HO_5:=n0_;have HO_6:=n1_;have HO_11:=n2_;have HB:=n3_;clear n0_ n1_ n2_ n3_;(try clear hb);(try clear hb2);(try clear hk);(try clear hi))|((with_reducible refine Qj (f:=22) rfl ?_);refine goesL_ (some 119) rfl rfl Try.func22 (by kernel_rfl) rfl #[.slice Ao36 t112.length co36] rfl (by (try simp only [aD,aE,aF]);first|done|rfl|(simp only [aG,aH];rfl)) ?_;(with_reducible refine (impl_FlowValue.calls kj18 _ _ t112 t125 t126 _ ?side1 ?side2 A33.out).mono ?_);(case side1=>repeat (first|exact (Kd.Qf HO_11.out).2.2|(with_reducible refine Kd.Qd ?_ _)|(with_reducible refine Kd.Qe ?_ _)|(with_reducible refine Kd.C_drew ?_)));(case side2=>exact (Kd.Qf HO_11.out).2.1);rintro e w38 ⟨rfl,hb⟩;refine ⟨_,rfl,?_⟩;have n0_:=aM (Kd.S_below (by (with_reducible repeat (first|apply Kd.Qh|apply Kd.Qg|apply Kd.S_drew));exact HO_5.out) hb);have n1_:=aM (Kd.S_below (by (with_reducible repeat (first|apply Kd.Qh|apply Kd.Qg|apply Kd.S_drew));exact HO_6.out) hb);have n2_:=aM (Kd.S_below (by (with_reducible repeat (first|apply Kd.Qh|apply Kd.Qg|apply Kd.S_drew));exact HO_11.out) hb);have n3_:=aM (Qi (by repeat (first|(with_reducible first|exact HB.out|apply Qb|apply Qa|apply Qc)|exact HB.out)) hb);clear HO_5;clear HO_6;clear HO_11;clear HB;have HO_5:=n0_;have HO_6:=n1_;have HO_11:=n2_;have HB:=n3_;clear n0_ n1_ n2_ n3_;(try clear hb);(try clear hb2);(try clear hk);(try clear hi))|((with_reducible refine Qj (f:=23) rfl ?_);refine goesL_ (some 125) rfl rfl Try.func23 (by kernel_rfl) rfl #[.slice Ao9 t101.length co9,.slice Ao36 t112.length co36] rfl (by (try simp only [aD,aE,aF]);first|done|rfl|(simp only [aG,aH];rfl)) ?_;(with_reducible refine (impl_NextWay.calls kj18 _ _ t101 _ _ t112 t127 t128 t129 _ ?side1 ?side2 ?side3 ?side4 A34.out).mono ?_);(case side1=>repeat (first|exact (Kd.Qf HO_5.out).2.2|(with_reducible refine Kd.Qd ?_ _)|(with_reducible refine Kd.Qe ?_ _)|(with_reducible refine Kd.C_drew ?_)));(case side2=>exact (Kd.Qf HO_5.out).2.1);(case side3=>repeat (first|exact (Kd.Qf HO_11.out).2.2|(with_reducible refine Kd.Qd ?_ _)|(with_reducible refine Kd.Qe ?_ _)|(with_reducible refine Kd.C_drew ?_)));(case side4=>exact (Kd.Qf HO_11.out).2.1);rintro e w39 ⟨v130,rfl,ho0,hb⟩;refine ⟨_,rfl,?_⟩;have n0_:=aM (Kd.S_elder' (by (with_reducible repeat (first|apply Kd.Qh|apply Kd.Qg|apply Kd.S_drew));exact HO_5.out) (Kd.R_base ho0) hb);have n1_:=aM (Kd.S_elder' (by (with_reducible repeat (first|apply Kd.Qh|apply Kd.Qg|apply Kd.S_drew));exact HO_6.out) (Kd.R_base ho0) hb);have n2_:=aM (Kd.S_elder' (by (with_reducible repeat (first|apply Kd.Qh|apply Kd.Qg|apply Kd.S_drew));exact HO_11.out) (Kd.R_base ho0) hb);have n3_:=aM (Kd.R_lower ho0 (Qm (by repeat (first|(with_reducible first|exact HB.out|apply Qb|apply Qa|apply Qc)|exact HB.out))));have n4_:=aM (Qi (by repeat (first|(with_reducible first|exact HB.out|apply Qb|apply Qa|apply Qc)|exact HB.out)) hb);clear HO_5;clear HO_6;clear HO_11;clear HB;have HO_5:=n0_;have HO_6:=n1_;have HO_11:=n2_;have HO131:=n3_;have HB:=n4_;clear n0_ n1_ n2_ n3_ n4_;(try clear hb);(try clear hb2);(try clear hk);(try clear hi);(try clear ho0)))
           (try simp only [Act.put,aA,aB,aC])
           go_cut [150] (fun v150 wc=>∃ (kq:Nat) (x150_34:Bool),v150= .bool x150_34∧Aside0 (laws_FnFlows.j2 kq l1 t102 t107 t108 t113 x150_34=some r)∧Aside0 (kq≤kj18)∧Aside0 (Kd.S (Kd.slice 3 (Kd.int .i64)) 34 wc w.heap.size (fun _=>True) (.slice Ao10 t102.length co10) t102)∧Aside0 (Below w.heap.size w wc))
           case first=>
            have H:=HC35.out;clear HC35;by_cases c40:t124=true
            ·subst c40;have H1:(if t123=true then (if t126=true then (if t125=t113 then (if t129=true then (laws_FnFlows.j2 kj18 l1 t102 t107 t108 t113 t128) else (laws_FnFlows.j2 kj18 l1 t102 t107 t108 t113 true)) else (laws_FnFlows.j2 kj18 l1 t102 t107 t108 t113 true)) else (laws_FnFlows.j2 kj18 l1 t102 t107 t108 t113 true)) else (laws_FnFlows.j2 kj18 l1 t102 t107 t108 t113 true))=some r:=by rw [if_pos rfl] at H;exact H
             clear H;have H:=H1;clear H1;by_cases c41:t123=true
             ·subst c41;have H1:(if t126=true then (if t125=t113 then (if t129=true then (laws_FnFlows.j2 kj18 l1 t102 t107 t108 t113 t128) else (laws_FnFlows.j2 kj18 l1 t102 t107 t108 t113 true)) else (laws_FnFlows.j2 kj18 l1 t102 t107 t108 t113 true)) else (laws_FnFlows.j2 kj18 l1 t102 t107 t108 t113 true))=some r:=by rw [if_pos rfl] at H;exact H
              clear H;have H:=H1;clear H1;by_cases c42:t126=true
              ·subst c42;have H1:(if t125=t113 then (if t129=true then (laws_FnFlows.j2 kj18 l1 t102 t107 t108 t113 t128) else (laws_FnFlows.j2 kj18 l1 t102 t107 t108 t113 true)) else (laws_FnFlows.j2 kj18 l1 t102 t107 t108 t113 true))=some r:=by rw [if_pos rfl] at H;exact H
               clear H;have H:=H1;clear H1;by_cases c43:t125=t113
               ·rw [if_pos c43] at H;have c43b0:(t125 == t113)=true:=beq_iff_eq.mpr c43;have c43b1:(t125 != t113)=false:=bne_eq_false_iff_eq.mpr c43;clear c43
                (first|rw [c43b0]|(simp only [i64_w,i32_w];rw [c43b0])|skip)
                by_cases c44:t129=true
                ·subst c44;have H1:(laws_FnFlows.j2 kj18 l1 t102 t107 t108 t113 t128)=some r:=by rw [if_pos rfl] at H;exact H
                 clear H;have H:=H1;clear H1
                 as_aux_lemma=>
                  have H':=aM H;clear H;go_wp2
                  go_meet
                  case rel=>exact ⟨_,(t128),(by first|rfl|(simp;done)|(simp [*];done)),H',⟨by have:=HJ6.out;have:=HJ18.out;first|omega|exact Nat.le_refl _⟩,⟨by (with_reducible repeat (first|apply Kd.Qh|apply Kd.Qg|apply Kd.S_drew));exact Kd.S_mono HO_6.out (fun _ hk=>trivial)⟩,⟨by repeat (first|(with_reducible first|exact HB.out|apply Qb|apply Qa|apply Qc)|exact HB.out)⟩⟩
                ·replace c44:=Bool.eq_false_iff.mpr c44;subst c44;have H1:(laws_FnFlows.j2 kj18 l1 t102 t107 t108 t113 true)=some r:=by rw [if_neg (show ¬ (false=true) by decide)] at H;exact H
                 clear H;have H:=H1;clear H1
                 as_aux_lemma=>
                  have H':=aM H;clear H;go_wp2
                  go_meet
                  case rel=>exact ⟨_,(true),(by first|rfl|(simp;done)|(simp [*];done)),H',⟨by have:=HJ6.out;have:=HJ18.out;first|omega|exact Nat.le_refl _⟩,⟨by (with_reducible repeat (first|apply Kd.Qh|apply Kd.Qg|apply Kd.S_drew));exact Kd.S_mono HO_6.out (fun _ hk=>trivial)⟩,⟨by repeat (first|(with_reducible first|exact HB.out|apply Qb|apply Qa|apply Qc)|exact HB.out)⟩⟩
               ·rw [if_neg c43] at H;have c43b0:(t125 == t113)=false:=beq_eq_false_iff_ne.mpr c43;have c43b1:(t125 != t113)=true:=bne_iff_ne.mpr c43
                (first|rw [c43b0]|(simp only [i64_w,i32_w];rw [c43b0])|skip)
                as_aux_lemma=>
                 have H':=aM H;clear H;go_wp2
                 go_meet
                 case rel=>exact ⟨_,(true),(by first|rfl|(simp;done)|(simp [*];done)),H',⟨by have:=HJ6.out;have:=HJ18.out;first|omega|exact Nat.le_refl _⟩,⟨by (with_reducible repeat (first|apply Kd.Qh|apply Kd.Qg|apply Kd.S_drew));exact Kd.S_mono HO_6.out (fun _ hk=>trivial)⟩,⟨by repeat (first|(with_reducible first|exact HB.out|apply Qb|apply Qa|apply Qc)|exact HB.out)⟩⟩
              ·replace c42:=Bool.eq_false_iff.mpr c42;subst c42;have H1:(laws_FnFlows.j2 kj18 l1 t102 t107 t108 t113 true)=some r:=by rw [if_neg (show ¬ (false=true) by decide)] at H;exact H
               clear H;have H:=H1;clear H1
               as_aux_lemma=>
                have H':=aM H;clear H;go_wp2
                go_meet
                case rel=>exact ⟨_,(true),(by first|rfl|(simp;done)|(simp [*];done)),H',⟨by have:=HJ6.out;have:=HJ18.out;first|omega|exact Nat.le_refl _⟩,⟨by (with_reducible repeat (first|apply Kd.Qh|apply Kd.Qg|apply Kd.S_drew));exact Kd.S_mono HO_6.out (fun _ hk=>trivial)⟩,⟨by repeat (first|(with_reducible first|exact HB.out|apply Qb|apply Qa|apply Qc)|exact HB.out)⟩⟩
             ·replace c41:=Bool.eq_false_iff.mpr c41;subst c41;have H1:(laws_FnFlows.j2 kj18 l1 t102 t107 t108 t113 true)=some r:=by rw [if_neg (show ¬ (false=true) by decide)] at H;exact H
              clear H;have H:=H1;clear H1
              as_aux_lemma=>
               have H':=aM H;clear H;go_wp2
               go_meet
               case rel=>exact ⟨_,(true),(by first|rfl|(simp;done)|(simp [*];done)),H',⟨by have:=HJ6.out;have:=HJ18.out;first|omega|exact Nat.le_refl _⟩,⟨by (with_reducible repeat (first|apply Kd.Qh|apply Kd.Qg|apply Kd.S_drew));exact Kd.S_mono HO_6.out (fun _ hk=>trivial)⟩,⟨by repeat (first|(with_reducible first|exact HB.out|apply Qb|apply Qa|apply Qc)|exact HB.out)⟩⟩
            ·replace c40:=Bool.eq_false_iff.mpr c40;subst c40;have H1:(laws_FnFlows.j2 kj18 l1 t102 t107 t108 t113 true)=some r:=by rw [if_neg (show ¬ (false=true) by decide)] at H;exact H
             clear H;have H:=H1;clear H1
             as_aux_lemma=>
              have H':=aM H;clear H;go_wp2
              go_meet
              case rel=>exact ⟨_,(true),(by first|rfl|(simp;done)|(simp [*];done)),H',⟨by have:=HJ6.out;have:=HJ18.out;first|omega|exact Nat.le_refl _⟩,⟨by (with_reducible repeat (first|apply Kd.Qh|apply Kd.Qg|apply Kd.S_drew));exact Kd.S_mono HO_6.out (fun _ hk=>trivial)⟩,⟨by repeat (first|(with_reducible first|exact HB.out|apply Qb|apply Qa|apply Qc)|exact HB.out)⟩⟩
           case rest=>
            clear HC35;(try clear c1);(try clear c2);(try clear p2);(try clear c3);(try clear c3b0);(try clear c4);(try clear p6);(try clear c12);(try clear c12b0);(try clear c12b1);(try clear c12b2);(try clear c13);(try clear c13b0);(try clear c13b1);(try clear c13b2);(try clear c15);(try clear c16);(try clear c17);(try clear c19);(try clear c20);(try clear c22);(try clear c22b0);(try clear c22b1);(try clear c22b2);(try clear c23);(try clear c24);(try clear c29);(try clear c31);(try clear c40);(try clear c41);(try clear c42);(try clear c43);(try clear c43b0);(try clear c43b1);(try clear c44);(try clear p2);(try clear p6);obtain ⟨kq,x150_34,rfl,HA,HJ34,HO_6,HB⟩:=hcut
            cases kq with
            |zero=>exact absurd HA.out (by simp [laws_FnFlows.j2])
            |succ kj34=>
             have H:=HA.out;clear HA;simp only [laws_FnFlows.j2] at H;by_cases c45:x150_34=true
             ·subst c45;have H1:(some false)=some r:=by rw [if_pos rfl] at H;exact H
              clear H;have H:=H1;clear H1
              as_aux_lemma=>
               obtain rfl:=Option.some.inj H;go_wp2
               go_ret
               exact ⟨by first|rfl|(simp [errW_none,errW_some] <;> rfl)|(simp [*,errW_none,errW_some] <;> rfl),by repeat (first|(with_reducible first|exact HB.out|apply Qb|apply Qa|apply Qc)|exact HB.out)⟩
             ·replace c45:=Bool.eq_false_iff.mpr c45;subst c45;have H1:(if t108=true then (laws_FnFlows.j3 kj34 l1 t102 t113 t107) else (laws_FnFlows.j3 kj34 l1 t102 t113 false))=some r:=by rw [if_neg (show ¬ (false=true) by decide)] at H;exact H
              clear H;have H:=H1;clear H1;have HC46:=aM H;clear H
              go_upto_region 18 with (fail)
              go_cut [154] (fun v154 wc=>∃ (kq:Nat) (x154_45:Bool),v154= .bool x154_45∧Aside0 (laws_FnFlows.j3 kq l1 t102 t113 x154_45=some r)∧Aside0 (kq≤kj34)∧Aside0 (Kd.S (Kd.slice 3 (Kd.int .i64)) 34 wc w.heap.size (fun _=>True) (.slice Ao10 t102.length co10) t102)∧Aside0 (Below w.heap.size w wc))
              case first=>
               have H:=HC46.out;clear HC46;by_cases c47:t108=true
               ·subst c47;have H1:(laws_FnFlows.j3 kj34 l1 t102 t113 t107)=some r:=by rw [if_pos rfl] at H;exact H
                clear H;have H:=H1;clear H1
                as_aux_lemma=>
                 have H':=aM H;clear H;go_wp2
                 go_meet
                 case rel=>exact ⟨_,(t107),(by first|rfl|(simp;done)|(simp [*];done)),H',⟨by have:=HJ6.out;have:=HJ18.out;have:=HJ34.out;first|omega|exact Nat.le_refl _⟩,⟨by (with_reducible repeat (first|apply Kd.Qh|apply Kd.Qg|apply Kd.S_drew));exact HO_6.out⟩,⟨by repeat (first|(with_reducible first|exact HB.out|apply Qb|apply Qa|apply Qc)|exact HB.out)⟩⟩
               ·replace c47:=Bool.eq_false_iff.mpr c47;subst c47;have H1:(laws_FnFlows.j3 kj34 l1 t102 t113 false)=some r:=by rw [if_neg (show ¬ (false=true) by decide)] at H;exact H
                clear H;have H:=H1;clear H1
                as_aux_lemma=>
                 have H':=aM H;clear H;go_wp2
                 go_meet
                 case rel=>exact ⟨_,(false),(by first|rfl|(simp;done)|(simp [*];done)),H',⟨by have:=HJ6.out;have:=HJ18.out;have:=HJ34.out;first|omega|exact Nat.le_refl _⟩,⟨by (with_reducible repeat (first|apply Kd.Qh|apply Kd.Qg|apply Kd.S_drew));exact HO_6.out⟩,⟨by repeat (first|(with_reducible first|exact HB.out|apply Qb|apply Qa|apply Qc)|exact HB.out)⟩⟩
              case rest=>
               clear HC46;(try clear c1);(try clear c2);(try clear p2);(try clear c3);(try clear c3b0);(try clear c4);(try clear p6);(try clear c12);(try clear c12b0);(try clear c12b1);(try clear c12b2);(try clear c13);(try clear c13b0);(try clear c13b1);(try clear c13b2);(try clear c15);(try clear c16);(try clear c17);(try clear c19);(try clear c20);(try clear c22);(try clear c22b0);(try clear c22b1);(try clear c22b2);(try clear c23);(try clear c24);(try clear c29);(try clear c31);(try clear c40);(try clear c41);(try clear c42);(try clear c43);(try clear c43b0);(try clear c43b1);(try clear c44);(try clear c45);(try clear c47);(try clear p2);(try clear p6);obtain ⟨kq,x154_45,rfl,HA,HJ45,HO_6,HB⟩:=hcut
               cases kq with
               |zero=>exact absurd HA.out (by simp [laws_FnFlows.j3])
               |succ kj45=>
                have H:=HA.out;clear HA;simp only [laws_FnFlows.j3] at H;by_cases c48:x154_45=true
                ·subst c48;have H1:((impl_FlowValue.f kj45 t102).bind fun bt132=>(if bt132.2=true then (if bt132.1 > t113 then (some false) else (laws_FnFlows.j4 kj45 l1)) else (some false)))=some r:=by rw [if_pos rfl] at H;exact H
                 clear H;have H:=H1;clear H1;replace H:=Option.bind_eq_some_iff.mp H;obtain ⟨⟨t132,t133⟩,A490,H⟩:=H;replace H:(if t133=true then (if t132 > t113 then (some false) else (laws_FnFlows.j4 kj45 l1)) else (some false))=some r:=H;have A49:=aM A490;clear A490;by_cases c50:t133=true
                 ·subst c50;have H1:(if t132 > t113 then (some false) else (laws_FnFlows.j4 kj45 l1))=some r:=by rw [if_pos rfl] at H;exact H
                  clear H;have H:=H1;clear H1;by_cases c51:t132 > t113
                  ·rw [if_pos c51] at H;have c51b0:decide (t113<t132)=true:=decide_eq_true c51;clear c51
                   as_aux_lemma=>
                    obtain rfl:=Option.some.inj H;go_wp2_with (first|((with_reducible refine Qj (f:=22) rfl ?_);refine goesL_ (some 157) rfl rfl Try.func22 (by kernel_rfl) rfl #[.slice Ao10 t102.length co10] rfl (by (try simp only [aD,aE,aF]);first|done|rfl|(simp only [aG,aH];rfl)) ?_;(with_reducible refine (impl_FlowValue.calls kj45 _ _ t102 t132 true _ ?side1 ?side2 A49.out).mono ?_);(case side1=>repeat (first|exact (Kd.Qf HO_6.out).2.2|(with_reducible refine Kd.Qd ?_ _)|(with_reducible refine Kd.Qe ?_ _)|(with_reducible refine Kd.C_drew ?_)));(case side2=>exact (Kd.Qf HO_6.out).2.1);rintro e w52 ⟨rfl,hb⟩;refine ⟨_,rfl,?_⟩;have n0_:=aM (Kd.S_below (by (with_reducible repeat (first|apply Kd.Qh|apply Kd.Qg|apply Kd.S_drew));exact HO_6.out) hb);have n1_:=aM (Qi (by repeat (first|(with_reducible first|exact HB.out|apply Qb|apply Qa|apply Qc)|exact HB.out)) hb);clear HO_6;clear HB;have HO_6:=n0_;have HB:=n1_;clear n0_ n1_;(try clear hb);(try clear hb2);(try clear hk);(try clear hi)))
                    go_ret
                    exact ⟨by first|rfl|(simp [errW_none,errW_some] <;> rfl)|(simp [*,errW_none,errW_some] <;> rfl),by repeat (first|(with_reducible first|exact HB.out|apply Qb|apply Qa|apply Qc)|exact HB.out)⟩
                  ·rw [if_neg c51] at H;have c51b0:decide (t113<t132)=false:=decide_eq_false c51;clear c51
                   as_aux_lemma=>
                    have H':=aM H;clear H;go_wp2_with (first|((with_reducible refine Qj (f:=22) rfl ?_);refine goesL_ (some 157) rfl rfl Try.func22 (by kernel_rfl) rfl #[.slice Ao10 t102.length co10] rfl (by (try simp only [aD,aE,aF]);first|done|rfl|(simp only [aG,aH];rfl)) ?_;(with_reducible refine (impl_FlowValue.calls kj45 _ _ t102 t132 true _ ?side1 ?side2 A49.out).mono ?_);(case side1=>repeat (first|exact (Kd.Qf HO_6.out).2.2|(with_reducible refine Kd.Qd ?_ _)|(with_reducible refine Kd.Qe ?_ _)|(with_reducible refine Kd.C_drew ?_)));(case side2=>exact (Kd.Qf HO_6.out).2.1);rintro e w53 ⟨rfl,hb⟩;refine ⟨_,rfl,?_⟩;have n0_:=aM (Kd.S_below (by (with_reducible repeat (first|apply Kd.Qh|apply Kd.Qg|apply Kd.S_drew));exact HO_6.out) hb);have n1_:=aM (Qi (by repeat (first|(with_reducible first|exact HB.out|apply Qb|apply Qa|apply Qc)|exact HB.out)) hb);clear HO_6;clear HB;have HO_6:=n0_;have HB:=n1_;clear n0_ n1_;(try clear hb);(try clear hb2);(try clear hk);(try clear hi)))
                    go_meet
                    case rel=>exact ⟨_,H',⟨by have:=HJ6.out;have:=HJ18.out;have:=HJ34.out;have:=HJ45.out;first|omega|exact Nat.le_refl _⟩,⟨by repeat (first|(with_reducible first|exact HB.out|apply Qb|apply Qa|apply Qc)|exact HB.out)⟩⟩
                 ·replace c50:=Bool.eq_false_iff.mpr c50;subst c50;have H1:(some false)=some r:=by rw [if_neg (show ¬ (false=true) by decide)] at H;exact H
                  clear H;have H:=H1;clear H1
                  as_aux_lemma=>
                   obtain rfl:=Option.some.inj H;go_wp2_with (first|((with_reducible refine Qj (f:=22) rfl ?_);refine goesL_ (some 157) rfl rfl Try.func22 (by kernel_rfl) rfl #[.slice Ao10 t102.length co10] rfl (by (try simp only [aD,aE,aF]);first|done|rfl|(simp only [aG,aH];rfl)) ?_;(with_reducible refine (impl_FlowValue.calls kj45 _ _ t102 t132 false _ ?side1 ?side2 A49.out).mono ?_);(case side1=>repeat (first|exact (Kd.Qf HO_6.out).2.2|(with_reducible refine Kd.Qd ?_ _)|(with_reducible refine Kd.Qe ?_ _)|(with_reducible refine Kd.C_drew ?_)));(case side2=>exact (Kd.Qf HO_6.out).2.1);rintro e w54 ⟨rfl,hb⟩;refine ⟨_,rfl,?_⟩;have n0_:=aM (Kd.S_below (by (with_reducible repeat (first|apply Kd.Qh|apply Kd.Qg|apply Kd.S_drew));exact HO_6.out) hb);have n1_:=aM (Qi (by repeat (first|(with_reducible first|exact HB.out|apply Qb|apply Qa|apply Qc)|exact HB.out)) hb);clear HO_6;clear HB;have HO_6:=n0_;have HB:=n1_;clear n0_ n1_;(try clear hb);(try clear hb2);(try clear hk);(try clear hi)))
                   go_ret
                   exact ⟨by first|rfl|(simp [errW_none,errW_some] <;> rfl)|(simp [*,errW_none,errW_some] <;> rfl),by repeat (first|(with_reducible first|exact HB.out|apply Qb|apply Qa|apply Qc)|exact HB.out)⟩
                ·replace c48:=Bool.eq_false_iff.mpr c48;subst c48;have H1:(laws_FnFlows.j4 kj45 l1)=some r:=by rw [if_neg (show ¬ (false=true) by decide)] at H;exact H
                 clear H;have H:=H1;clear H1
                 as_aux_lemma=>
                  have H':=aM H;clear H;go_wp2
                  go_meet
                  case rel=>exact ⟨_,H',⟨by have:=HJ6.out;have:=HJ18.out;have:=HJ34.out;have:=HJ45.out;first|omega|exact Nat.le_refl _⟩,⟨by repeat (first|(with_reducible first|exact HB.out|apply Qb|apply Qa|apply Qc)|exact HB.out)⟩⟩
          ·replace c31:=Bool.eq_false_iff.mpr c31;subst c31;have H1:(laws_FnFlows.j4 kj18 l1)=some r:=by rw [if_neg (show ¬ (false=true) by decide)] at H;exact H
           clear H;have H:=H1;clear H1
           as_aux_lemma=>
            have H':=aM H;clear H;go_wp2
            go_meet
            case rel=>exact ⟨_,H',⟨by have:=HJ6.out;have:=HJ18.out;first|omega|exact Nat.le_refl _⟩,⟨by repeat (first|(with_reducible first|exact HB.out|apply Qb|apply Qa|apply Qc)|exact HB.out)⟩⟩
         case rest=>
          clear HC30;(try clear c1);(try clear c2);(try clear p2);(try clear c3);(try clear c3b0);(try clear c4);(try clear c5);(try clear p6);(try clear c12);(try clear c12b0);(try clear c12b1);(try clear c12b2);(try clear c13);(try clear c13b0);(try clear c13b1);(try clear c13b2);(try clear c15);(try clear c16);(try clear c17);(try clear c19);(try clear c20);(try clear c22);(try clear c22b0);(try clear c22b1);(try clear c22b2);(try clear c23);(try clear c24);(try clear c29);(try clear c31);(try clear c40);(try clear c41);(try clear c42);(try clear c43);(try clear c43b0);(try clear c43b1);(try clear c44);(try clear c45);(try clear c47);(try clear c48);(try clear c50);(try clear c51);(try clear c51b0);(try clear p2);(try clear p6);obtain ⟨kq,HA,HJ29,HB⟩:=hcut
          cases kq with
          |zero=>exact absurd HA.out (by simp [laws_FnFlows.j4])
          |succ kj29=>
           have H:=HA.out;clear HA;simp only [laws_FnFlows.j4] at H;replace H:=Option.bind_eq_some_iff.mp H;obtain ⟨⟨t134,t135,t136⟩,A550,H⟩:=H;replace H:((impl_PushWay.f kj29 t134 t135 t136).bind fun bt143=>((spec_PushWay.f kj29 t134 t135 t136).bind fun bt148=>((impl_NextWay.f kj29 t134 t135).bind fun bt153=>((spec_NextWay.f kj29 t134 t135).bind fun bt158=>(if (bt143.2.2 != bt148.2.2)=true then (laws_FnFlows.j5 kj29 t134 t135 bt143.1 bt143.2.1 bt143.2.2 true) else (if bt143.2.1=bt148.2.1 then ((laws_sameRows.f kj29 bt143.1 bt148.1).bind fun t163=>(if t163=true then (if (bt153.2.2 != bt158.2.2)=true then (laws_FnFlows.j5 kj29 t134 t135 bt143.1 bt143.2.1 bt143.2.2 true) else (if (bt153.2.1 != bt158.2.1)=true then (laws_FnFlows.j5 kj29 t134 t135 bt143.1 bt143.2.1 bt143.2.2 true) else ((laws_sameInts.f kj29 bt153.1 bt158.1).bind fun t164=>(laws_FnFlows.j5 kj29 t134 t135 bt143.1 bt143.2.1 bt143.2.2 (!t164))))) else (laws_FnFlows.j5 kj29 t134 t135 bt143.1 bt143.2.1 bt143.2.2 true))) else (laws_FnFlows.j5 kj29 t134 t135 bt143.1 bt143.2.1 bt143.2.2 true)))))))=some r:=H;have A55:=aM A550;clear A550;replace H:=Option.bind_eq_some_iff.mp H;obtain ⟨⟨t143,t144,t145⟩,A560,H⟩:=H;replace H:((spec_PushWay.f kj29 t134 t135 t136).bind fun bt148=>((impl_NextWay.f kj29 t134 t135).bind fun bt153=>((spec_NextWay.f kj29 t134 t135).bind fun bt158=>(if (t145 != bt148.2.2)=true then (laws_FnFlows.j5 kj29 t134 t135 t143 t144 t145 true) else (if t144=bt148.2.1 then ((laws_sameRows.f kj29 t143 bt148.1).bind fun t163=>(if t163=true then (if (bt153.2.2 != bt158.2.2)=true then (laws_FnFlows.j5 kj29 t134 t135 t143 t144 t145 true) else (if (bt153.2.1 != bt158.2.1)=true then (laws_FnFlows.j5 kj29 t134 t135 t143 t144 t145 true) else ((laws_sameInts.f kj29 bt153.1 bt158.1).bind fun t164=>(laws_FnFlows.j5 kj29 t134 t135 t143 t144 t145 (!t164))))) else (laws_FnFlows.j5 kj29 t134 t135 t143 t144 t145 true))) else (laws_FnFlows.j5 kj29 t134 t135 t143 t144 t145 true))))))=some r:=H;have A56:=aM A560;clear A560;replace H:=Option.bind_eq_some_iff.mp H;obtain ⟨⟨t148,t149,t150⟩,A570,H⟩:=H;replace H:((impl_NextWay.f kj29 t134 t135).bind fun bt153=>((spec_NextWay.f kj29 t134 t135).bind fun bt158=>(if (t145 != t150)=true then (laws_FnFlows.j5 kj29 t134 t135 t143 t144 t145 true) else (if t144=t149 then ((laws_sameRows.f kj29 t143 t148).bind fun t163=>(if t163=true then (if (bt153.2.2 != bt158.2.2)=true then (laws_FnFlows.j5 kj29 t134 t135 t143 t144 t145 true) else (if (bt153.2.1 != bt158.2.1)=true then (laws_FnFlows.j5 kj29 t134 t135 t143 t144 t145 true) else ((laws_sameInts.f kj29 bt153.1 bt158.1).bind fun t164=>(laws_FnFlows.j5 kj29 t134 t135 t143 t144 t145 (!t164))))) else (laws_FnFlows.j5 kj29 t134 t135 t143 t144 t145 true))) else (laws_FnFlows.j5 kj29 t134 t135 t143 t144 t145 true)))))=some r:=H;have A57:=aM A570;clear A570;replace H:=Option.bind_eq_some_iff.mp H;obtain ⟨⟨t153,t154,t155⟩,A580,H⟩:=H;replace H:((spec_NextWay.f kj29 t134 t135).bind fun bt158=>(if (t145 != t150)=true then (laws_FnFlows.j5 kj29 t134 t135 t143 t144 t145 true) else (if t144=t149 then ((laws_sameRows.f kj29 t143 t148).bind fun t163=>(if t163=true then (if (t155 != bt158.2.2)=true then (laws_FnFlows.j5 kj29 t134 t135 t143 t144 t145 true) else (if (t154 != bt158.2.1)=true then (laws_FnFlows.j5 kj29 t134 t135 t143 t144 t145 true) else ((laws_sameInts.f kj29 t153 bt158.1).bind fun t164=>(laws_FnFlows.j5 kj29 t134 t135 t143 t144 t145 (!t164))))) else (laws_FnFlows.j5 kj29 t134 t135 t143 t144 t145 true))) else (laws_FnFlows.j5 kj29 t134 t135 t143 t144 t145 true))))=some r:=H;have A58:=aM A580;clear A580;replace H:=Option.bind_eq_some_iff.mp H;obtain ⟨⟨t158,t159,t160⟩,A590,H⟩:=H;replace H:(if (t145 != t150)=true then (laws_FnFlows.j5 kj29 t134 t135 t143 t144 t145 true) else (if t144=t149 then ((laws_sameRows.f kj29 t143 t148).bind fun t163=>(if t163=true then (if (t155 != t160)=true then (laws_FnFlows.j5 kj29 t134 t135 t143 t144 t145 true) else (if (t154 != t159)=true then (laws_FnFlows.j5 kj29 t134 t135 t143 t144 t145 true) else ((laws_sameInts.f kj29 t153 t158).bind fun t164=>(laws_FnFlows.j5 kj29 t134 t135 t143 t144 t145 (!t164))))) else (laws_FnFlows.j5 kj29 t134 t135 t143 t144 t145 true))) else (laws_FnFlows.j5 kj29 t134 t135 t143 t144 t145 true)))=some r:=H;have A59:=aM A590;clear A590;have HC60:=aM H;clear H
           go_upto_region 27 with (first|((with_reducible refine Qj (f:=24) rfl ?_);refine goesL_ (some 169) rfl rfl Try.func24 (by kernel_rfl) rfl #[.slice A1 l1.length c1] rfl (by (try simp only [aD,aE,aF]);first|done|rfl|(simp only [aG,aH];rfl)) ?_;(with_reducible refine (spec_DrawPushWay.calls kj29 _ _ l1 t134 t135 t136 _ ?side1 ?side2 A55.out).mono ?_);(case side1=>repeat (first|exact (Kd.Ql HR1.out HB.out)|(with_reducible refine Kd.Qd ?_ _)|(with_reducible refine Kd.Qe ?_ _)|(with_reducible refine Kd.C_drew ?_)));(case side2=>exact HC1.out);rintro e w61 ⟨v137,v139,v141,rfl,ho0,ho1,ho2,hb⟩;refine ⟨_,rfl,?_⟩;have n0_:=aM (Kd.S_lower ho0 (Qm (by repeat (first|(with_reducible first|exact HB.out|apply Qb|apply Qa|apply Qc)|exact HB.out))));have n1_:=aM (Kd.S_lower ho1 (Qm (by repeat (first|(with_reducible first|exact HB.out|apply Qb|apply Qa|apply Qc)|exact HB.out))));have n2_:=aM (Kd.R_lower ho2 (Qm (by repeat (first|(with_reducible first|exact HB.out|apply Qb|apply Qa|apply Qc)|exact HB.out))));have n3_:=aM (Qi (by repeat (first|(with_reducible first|exact HB.out|apply Qb|apply Qa|apply Qc)|exact HB.out)) hb);clear HB;have HO138:=n0_;have HO140:=n1_;have HO142:=n2_;have HB:=n3_;clear n0_ n1_ n2_ n3_;(try clear hb);(try clear hb2);(try clear hk);(try clear hi);(try clear ho0);(try clear ho1);(try clear ho2);obtain ⟨Ao62,co62,eo62⟩:=Kd.S_slice HO138.out;subst eo62;obtain ⟨Ao63,co63,eo63⟩:=Kd.S_slice HO140.out;subst eo63;obtain ⟨Ao64,co64,eo64⟩:=Kd.R_slice HO142.out;subst eo64)|((with_reducible refine Qj (f:=25) rfl ?_);refine goesL_ (some 177) rfl rfl Try.func25 (by kernel_rfl) rfl #[.slice Ao62 t134.length co62,.slice Ao63 t135.length co63,.slice Ao64 t136.length co64] rfl (by (try simp only [aD,aE,aF]);first|done|rfl|(simp only [aG,aH];rfl)) ?_;(with_reducible refine (impl_PushWay.calls kj29 _ _ t134 _ _ t135 _ _ t136 t143 t144 t145 _ ?side1 ?side2 ?side3 ?side4 ?side5 ?side6 A56.out).mono ?_);(case side1=>repeat (first|exact (Kd.Qf HO138.out).2.2|(with_reducible refine Kd.Qd ?_ _)|(with_reducible refine Kd.Qe ?_ _)|(with_reducible refine Kd.C_drew ?_)));(case side2=>exact (Kd.Qf HO138.out).2.1);(case side3=>repeat (first|exact (Kd.Qf HO140.out).2.2|(with_reducible refine Kd.Qd ?_ _)|(with_reducible refine Kd.Qe ?_ _)|(with_reducible refine Kd.C_drew ?_)));(case side4=>exact (Kd.Qf HO140.out).2.1);(case side5=>repeat (first|exact (Kd.R_reads' HO142.out).2.2|(with_reducible refine Kd.Qd ?_ _)|(with_reducible refine Kd.Qe ?_ _)|(with_reducible refine Kd.C_drew ?_)));(case side6=>exact (Kd.R_reads' HO142.out).2.1);rintro e w65 ⟨v146,rfl,ho0,hb⟩;refine ⟨_,rfl,?_⟩;have n0_:=aM (Kd.S_elder' (by (with_reducible repeat (first|apply Kd.Qh|apply Kd.Qg|apply Kd.S_drew));exact HO138.out) (Kd.S_base ho0) hb);have n1_:=aM (Kd.S_elder' (by (with_reducible repeat (first|apply Kd.Qh|apply Kd.Qg|apply Kd.S_drew));exact HO140.out) (Kd.S_base ho0) hb);have n2_:=aM (Kd.R_below (by (with_reducible repeat (first|apply Kd.Qn|apply Kd.Qo|apply Kd.R_drew));exact HO142.out) hb);have n3_:=aM (Kd.S_lower (Kd.S_new' (Kd.S_new' (Kd.S_new' ho0 (Kd.S_lt (by (with_reducible repeat (first|apply Kd.Qh|apply Kd.Qg|apply Kd.S_drew));exact HO138.out))) (Kd.S_lt (by (with_reducible repeat (first|apply Kd.Qh|apply Kd.Qg|apply Kd.S_drew));exact HO140.out))) (Kd.R_lt (by (with_reducible repeat (first|apply Kd.Qn|apply Kd.Qo|apply Kd.R_drew));exact HO142.out))) (Qm (by repeat (first|(with_reducible first|exact HB.out|apply Qb|apply Qa|apply Qc)|exact HB.out))));have n4_:=aM (Qi (by repeat (first|(with_reducible first|exact HB.out|apply Qb|apply Qa|apply Qc)|exact HB.out)) hb);clear HO138;clear HO140;clear HO142;clear HB;have HO138:=n0_;have HO140:=n1_;have HO142:=n2_;have HO147:=n3_;have HB:=n4_;clear n0_ n1_ n2_ n3_ n4_;(try clear hb);(try clear hb2);(try clear hk);(try clear hi);(try clear ho0))|((with_reducible refine Qj (f:=26) rfl ?_);refine goesL_ (some 185) rfl rfl Try.func26 (by kernel_rfl) rfl #[.slice Ao62 t134.length co62,.slice Ao63 t135.length co63,.slice Ao64 t136.length co64] rfl (by (try simp only [aD,aE,aF]);first|done|rfl|(simp only [aG,aH];rfl)) ?_;(with_reducible refine (spec_PushWay.calls kj29 _ _ t134 _ _ t135 _ _ t136 t148 t149 t150 _ ?side1 ?side2 ?side3 ?side4 ?side5 ?side6 A57.out).mono ?_);(case side1=>repeat (first|exact (Kd.Qf HO138.out).2.2|(with_reducible refine Kd.Qd ?_ _)|(with_reducible refine Kd.Qe ?_ _)|(with_reducible refine Kd.C_drew ?_)));(case side2=>exact (Kd.Qf HO138.out).2.1);(case side3=>repeat (first|exact (Kd.Qf HO140.out).2.2|(with_reducible refine Kd.Qd ?_ _)|(with_reducible refine Kd.Qe ?_ _)|(with_reducible refine Kd.C_drew ?_)));(case side4=>exact (Kd.Qf HO140.out).2.1);(case side5=>repeat (first|exact (Kd.R_reads' HO142.out).2.2|(with_reducible refine Kd.Qd ?_ _)|(with_reducible refine Kd.Qe ?_ _)|(with_reducible refine Kd.C_drew ?_)));(case side6=>exact (Kd.R_reads' HO142.out).2.1);rintro e w66 ⟨v151,rfl,ho0,hb⟩;refine ⟨_,rfl,?_⟩;have n0_:=aM (Kd.S_elder' (by (with_reducible repeat (first|apply Kd.Qh|apply Kd.Qg|apply Kd.S_drew));exact HO138.out) (Kd.S_base ho0) hb);have n1_:=aM (Kd.S_elder' (by (with_reducible repeat (first|apply Kd.Qh|apply Kd.Qg|apply Kd.S_drew));exact HO140.out) (Kd.S_base ho0) hb);have n2_:=aM (Kd.R_below (by (with_reducible repeat (first|apply Kd.Qn|apply Kd.Qo|apply Kd.R_drew));exact HO142.out) hb);have n3_:=aM (Kd.S_elder' (by (with_reducible repeat (first|apply Kd.Qh|apply Kd.Qg|apply Kd.S_drew));exact HO147.out) (Kd.S_base ho0) hb);have n4_:=aM (Kd.S_lower (Kd.S_new' (Kd.S_new' (Kd.S_new' (Kd.S_new' ho0 (Kd.S_lt (by (with_reducible repeat (first|apply Kd.Qh|apply Kd.Qg|apply Kd.S_drew));exact HO138.out))) (Kd.S_lt (by (with_reducible repeat (first|apply Kd.Qh|apply Kd.Qg|apply Kd.S_drew));exact HO140.out))) (Kd.R_lt (by (with_reducible repeat (first|apply Kd.Qn|apply Kd.Qo|apply Kd.R_drew));exact HO142.out))) (Kd.S_lt (by (with_reducible repeat (first|apply Kd.Qh|apply Kd.Qg|apply Kd.S_drew));exact HO147.out))) (Qm (by repeat (first|(with_reducible first|exact HB.out|apply Qb|apply Qa|apply Qc)|exact HB.out))));have n5_:=aM (Qi (by repeat (first|(with_reducible first|exact HB.out|apply Qb|apply Qa|apply Qc)|exact HB.out)) hb);clear HO138;clear HO140;clear HO142;clear HO147;clear HB;have HO138:=n0_;have HO140:=n1_;have HO142:=n2_;have HO147:=n3_;have HO152:=n4_;have HB:=n5_;clear n0_ n1_ n2_ n3_ n4_ n5_;(try clear hb);(try clear hb2);(try clear hk);(try clear hi);(try clear ho0))|((with_reducible refine Qj (f:=23) rfl ?_);refine goesL_ (some 192) rfl rfl Try.func23 (by kernel_rfl) rfl #[.slice Ao62 t134.length co62,.slice Ao63 t135.length co63] rfl (by (try simp only [aD,aE,aF]);first|done|rfl|(simp only [aG,aH];rfl)) ?_;(with_reducible refine (impl_NextWay.calls kj29 _ _ t134 _ _ t135 t153 t154 t155 _ ?side1 ?side2 ?side3 ?side4 A58.out).mono ?_);(case side1=>repeat (first|exact (Kd.Qf HO138.out).2.2|(with_reducible refine Kd.Qd ?_ _)|(with_reducible refine Kd.Qe ?_ _)|(with_reducible refine Kd.C_drew ?_)));(case side2=>exact (Kd.Qf HO138.out).2.1);(case side3=>repeat (first|exact (Kd.Qf HO140.out).2.2|(with_reducible refine Kd.Qd ?_ _)|(with_reducible refine Kd.Qe ?_ _)|(with_reducible refine Kd.C_drew ?_)));(case side4=>exact (Kd.Qf HO140.out).2.1);rintro e w67 ⟨v156,rfl,ho0,hb⟩;refine ⟨_,rfl,?_⟩;have n0_:=aM (Kd.S_elder' (by (with_reducible repeat (first|apply Kd.Qh|apply Kd.Qg|apply Kd.S_drew));exact HO138.out) (Kd.R_base ho0) hb);have n1_:=aM (Kd.S_elder' (by (with_reducible repeat (first|apply Kd.Qh|apply Kd.Qg|apply Kd.S_drew));exact HO140.out) (Kd.R_base ho0) hb);have n2_:=aM (Kd.R_elder' (by (with_reducible repeat (first|apply Kd.Qn|apply Kd.Qo|apply Kd.R_drew));exact HO142.out) (Kd.R_base ho0) hb);have n3_:=aM (Kd.S_elder' (by (with_reducible repeat (first|apply Kd.Qh|apply Kd.Qg|apply Kd.S_drew));exact HO147.out) (Kd.R_base ho0) hb);have n4_:=aM (Kd.S_elder' (by (with_reducible repeat (first|apply Kd.Qh|apply Kd.Qg|apply Kd.S_drew));exact HO152.out) (Kd.R_base ho0) hb);have n5_:=aM (Kd.R_lower (Kd.R_new' ho0 (Kd.R_lt (by (with_reducible repeat (first|apply Kd.Qn|apply Kd.Qo|apply Kd.R_drew));exact HO142.out))) (Qm (by repeat (first|(with_reducible first|exact HB.out|apply Qb|apply Qa|apply Qc)|exact HB.out))));have n6_:=aM (Qi (by repeat (first|(with_reducible first|exact HB.out|apply Qb|apply Qa|apply Qc)|exact HB.out)) hb);clear HO138;clear HO140;clear HO142;clear HO147;clear HO152;clear HB;have HO138:=n0_;have HO140:=n1_;have HO142:=n2_;have HO147:=n3_;have HO152:=n4_;have HO157:=n5_;have HB:=n6_;clear n0_ n1_ n2_ n3_ n4_ n5_ n6_;(try clear hb);(try clear hb2);(try clear hk);(try clear hi);(try clear ho0))|((with_reducible refine Qj (f:=27) rfl ?_);refine goesL_ (some 199) rfl rfl Try.func27 (by kernel_rfl) rfl #[.slice Ao62 t134.length co62,.slice Ao63 t135.length co63] rfl (by (try simp only [aD,aE,aF]);first|done|rfl|(simp only [aG,aH];rfl)) ?_;(with_reducible refine (spec_NextWay.calls kj29 _ _ t134 _ _ t135 t158 t159 t160 _ ?side1 ?side2 ?side3 ?side4 A59.out).mono ?_);(case side1=>repeat (first|exact (Kd.Qf HO138.out).2.2|(with_reducible refine Kd.Qd ?_ _)|(with_reducible refine Kd.Qe ?_ _)|(with_reducible refine Kd.C_drew ?_)));(case side2=>exact (Kd.Qf HO138.out).2.1);(case side3=>repeat (first|exact (Kd.Qf HO140.out).2.2|(with_reducible refine Kd.Qd ?_ _)|(with_reducible refine Kd.Qe ?_ _)|(with_reducible refine Kd.C_drew ?_)));(case side4=>exact (Kd.Qf HO140.out).2.1);rintro e w68 ⟨v161,rfl,ho0,hb⟩;refine ⟨_,rfl,?_⟩;have n0_:=aM (Kd.S_elder' (by (with_reducible repeat (first|apply Kd.Qh|apply Kd.Qg|apply Kd.S_drew));exact HO138.out) (Kd.R_base ho0) hb);have n1_:=aM (Kd.S_elder' (by (with_reducible repeat (first|apply Kd.Qh|apply Kd.Qg|apply Kd.S_drew));exact HO140.out) (Kd.R_base ho0) hb);have n2_:=aM (Kd.R_elder' (by (with_reducible repeat (first|apply Kd.Qn|apply Kd.Qo|apply Kd.R_drew));exact HO142.out) (Kd.R_base ho0) hb);have n3_:=aM (Kd.S_elder' (by (with_reducible repeat (first|apply Kd.Qh|apply Kd.Qg|apply Kd.S_drew));exact HO147.out) (Kd.R_base ho0) hb);have n4_:=aM (Kd.S_elder' (by (with_reducible repeat (first|apply Kd.Qh|apply Kd.Qg|apply Kd.S_drew));exact HO152.out) (Kd.R_base ho0) hb);have n5_:=aM (Kd.R_elder' (by (with_reducible repeat (first|apply Kd.Qn|apply Kd.Qo|apply Kd.R_drew));exact HO157.out) (Kd.R_base ho0) hb);have n6_:=aM (Kd.R_lower (Kd.R_new' (Kd.R_new' ho0 (Kd.R_lt (by (with_reducible repeat (first|apply Kd.Qn|apply Kd.Qo|apply Kd.R_drew));exact HO142.out))) (Kd.R_lt (by (with_reducible repeat (first|apply Kd.Qn|apply Kd.Qo|apply Kd.R_drew));exact HO157.out))) (Qm (by repeat (first|(with_reducible first|exact HB.out|apply Qb|apply Qa|apply Qc)|exact HB.out))));have n7_:=aM (Qi (by repeat (first|(with_reducible first|exact HB.out|apply Qb|apply Qa|apply Qc)|exact HB.out)) hb);clear HO138;clear HO140;clear HO142;clear HO147;clear HO152;clear HO157;clear HB;have HO138:=n0_;have HO140:=n1_;have HO142:=n2_;have HO147:=n3_;have HO152:=n4_;have HO157:=n5_;have HO162:=n6_;have HB:=n7_;clear n0_ n1_ n2_ n3_ n4_ n5_ n6_ n7_;(try clear hb);(try clear hb2);(try clear hk);(try clear hi);(try clear ho0)))
           (try simp only [Act.put,aA,aB,aC])
           go_cut [232] (fun v232 wc=>∃ (kq:Nat) (x232_59:Bool),v232= .bool x232_59∧Aside0 (laws_FnFlows.j5 kq t134 t135 t143 t144 t145 x232_59=some r)∧Aside0 (kq≤kj29)∧Aside0 (Kd.S (Kd.slice 3 (Kd.int .i64)) 34 wc w.heap.size (fun k_=>some k_≠((.slice Ao63 t135.length co63):Value).ownBlock∧some k_≠(v146:Value).ownBlock) (.slice Ao62 t134.length co62) t134)∧Aside0 (Kd.S (Kd.slice 3 (Kd.int .i64)) 34 wc w.heap.size (fun k_=>some k_≠((.slice Ao62 t134.length co62):Value).ownBlock∧some k_≠(v146:Value).ownBlock) (.slice Ao63 t135.length co63) t135)∧Aside0 (Kd.S (Kd.slice 3 (Kd.int .i64)) 34 wc w.heap.size (fun k_=>some k_≠((.slice Ao62 t134.length co62):Value).ownBlock∧some k_≠((.slice Ao63 t135.length co63):Value).ownBlock) v146 t143)∧Aside0 (Below w.heap.size w wc))
           case first=>
            have H:=HC60.out;clear HC60;by_cases c69:(t145 != t150)=true
            ·rw [if_pos c69] at H;have c69b0:(t145 != t150)=true:=c69;(try (have c69b1:decide (t145=t150)=false:=by simpa using c69));(try (have c69b2:(t145 == t150)=false:=by simpa using c69));(try (have c69b3: ¬ (t145=t150):=by simpa using c69));clear c69
             (first|rw [c69b0]|(simp only [i64_w,i32_w];rw [c69b0])|skip)
             as_aux_lemma=>
              have H':=aM H;clear H;go_wp2
              go_meet
              case rel=>exact ⟨_,(true),(by first|rfl|(simp;done)|(simp [*];done)),H',⟨by have:=HJ6.out;have:=HJ18.out;have:=HJ29.out;first|omega|exact Nat.le_refl _⟩,⟨by (with_reducible repeat (first|apply Kd.Qh|apply Kd.Qg|apply Kd.S_drew));exact Kd.S_mono HO138.out (fun _ hk=>⟨hk.1.1.1.1.1,hk.1.1.1.2⟩)⟩,⟨by (with_reducible repeat (first|apply Kd.Qh|apply Kd.Qg|apply Kd.S_drew));exact Kd.S_mono HO140.out (fun _ hk=>⟨hk.1.1.1.1.1,hk.1.1.1.2⟩)⟩,⟨by (with_reducible repeat (first|apply Kd.Qh|apply Kd.Qg|apply Kd.S_drew));exact Kd.S_mono HO147.out (fun _ hk=>⟨hk.1.1.1.1.1.2,hk.1.1.1.1.2⟩)⟩,⟨by repeat (first|(with_reducible first|exact HB.out|apply Qb|apply Qa|apply Qc)|exact HB.out)⟩⟩
            ·rw [if_neg c69] at H;have c69b0:(t145 != t150)=false:=by simpa using c69
             (try (have c69b1:decide (t145=t150)=true:=by simpa using c69));(try (have c69b2:(t145 == t150)=true:=by simpa using c69));clear c69
             (first|rw [c69b0]|(simp only [i64_w,i32_w];rw [c69b0])|skip)
             by_cases c70:t144=t149
             ·rw [if_pos c70] at H;have c70b0:(t144 == t149)=true:=beq_iff_eq.mpr c70;have c70b1:(t144 != t149)=false:=bne_eq_false_iff_eq.mpr c70;clear c70;replace H:=Option.bind_eq_some_iff.mp H;obtain ⟨t163,A710,H⟩:=H;replace H:(if t163=true then (if (t155 != t160)=true then (laws_FnFlows.j5 kj29 t134 t135 t143 t144 t145 true) else (if (t154 != t159)=true then (laws_FnFlows.j5 kj29 t134 t135 t143 t144 t145 true) else ((laws_sameInts.f kj29 t153 t158).bind fun t164=>(laws_FnFlows.j5 kj29 t134 t135 t143 t144 t145 (!t164))))) else (laws_FnFlows.j5 kj29 t134 t135 t143 t144 t145 true))=some r:=H;have A71:=aM A710;clear A710;by_cases c72:t163=true
              ·subst c72;have H1:(if (t155 != t160)=true then (laws_FnFlows.j5 kj29 t134 t135 t143 t144 t145 true) else (if (t154 != t159)=true then (laws_FnFlows.j5 kj29 t134 t135 t143 t144 t145 true) else ((laws_sameInts.f kj29 t153 t158).bind fun t164=>(laws_FnFlows.j5 kj29 t134 t135 t143 t144 t145 (!t164)))))=some r:=by rw [if_pos rfl] at H;exact H
               clear H;have H:=H1;clear H1;by_cases c73:(t155 != t160)=true
               ·rw [if_pos c73] at H;have c73b0:(t155 != t160)=true:=c73;(try (have c73b1:decide (t155=t160)=false:=by simpa using c73));(try (have c73b2:(t155 == t160)=false:=by simpa using c73));(try (have c73b3: ¬ (t155=t160):=by simpa using c73));clear c73
                as_aux_lemma=>
                 have H':=aM H;clear H;obtain ⟨Ao74,co74,eo74⟩:=Kd.S_slice HO147.out;subst eo74;obtain ⟨Ao75,co75,eo75⟩:=Kd.S_slice HO152.out;subst eo75;go_wp2_with (first|(go_at_call 21;(with_reducible refine (laws_sameRows.calls kj29 _ _ t143 _ _ t148 true _ ?side1 ?side2 ?side3 ?side4 A71.out).mono ?_);(case side1=>repeat (first|exact (Kd.Qf HO147.out).2.2|(with_reducible refine Kd.Qd ?_ _)|(with_reducible refine Kd.Qe ?_ _)|(with_reducible refine Kd.C_drew ?_)));(case side2=>exact (Kd.Qf HO147.out).2.1);(case side3=>repeat (first|exact (Kd.Qf HO152.out).2.2|(with_reducible refine Kd.Qd ?_ _)|(with_reducible refine Kd.Qe ?_ _)|(with_reducible refine Kd.C_drew ?_)));(case side4=>exact (Kd.Qf HO152.out).2.1);rintro e w' ⟨rfl,⟨nd,rfl⟩⟩))
                 go_meet
                 case rel=>exact ⟨_,(true),(by first|rfl|(simp;done)|(simp [*];done)),H',⟨by have:=HJ6.out;have:=HJ18.out;have:=HJ29.out;first|omega|exact Nat.le_refl _⟩,⟨by (with_reducible repeat (first|apply Kd.Qh|apply Kd.Qg|apply Kd.S_drew));exact Kd.S_mono HO138.out (fun _ hk=>⟨hk.1.1.1.1.1,hk.1.1.1.2⟩)⟩,⟨by (with_reducible repeat (first|apply Kd.Qh|apply Kd.Qg|apply Kd.S_drew));exact Kd.S_mono HO140.out (fun _ hk=>⟨hk.1.1.1.1.1,hk.1.1.1.2⟩)⟩,⟨by (with_reducible repeat (first|apply Kd.Qh|apply Kd.Qg|apply Kd.S_drew));exact Kd.S_mono HO147.out (fun _ hk=>⟨hk.1.1.1.1.1.2,hk.1.1.1.1.2⟩)⟩,⟨by repeat (first|(with_reducible first|exact HB.out|apply Qb|apply Qa|apply Qc)|exact HB.out)⟩⟩
               ·rw [if_neg c73] at H;have c73b0:(t155 != t160)=false:=by simpa using c73
                (try (have c73b1:decide (t155=t160)=true:=by simpa using c73));(try (have c73b2:(t155 == t160)=true:=by simpa using c73));clear c73;by_cases c76:(t154 != t159)=true
                ·rw [if_pos c76] at H;have c76b0:(t154 != t159)=true:=c76;(try (have c76b1:decide (t154=t159)=false:=by simpa using c76));(try (have c76b2:(t154 == t159)=false:=by simpa using c76));(try (have c76b3: ¬ (t154=t159):=by simpa using c76));clear c76
                 as_aux_lemma=>
                  have H':=aM H;clear H;obtain ⟨Ao77,co77,eo77⟩:=Kd.S_slice HO147.out;subst eo77;obtain ⟨Ao78,co78,eo78⟩:=Kd.S_slice HO152.out;subst eo78;go_wp2_with (first|(go_at_call 21;(with_reducible refine (laws_sameRows.calls kj29 _ _ t143 _ _ t148 true _ ?side1 ?side2 ?side3 ?side4 A71.out).mono ?_);(case side1=>repeat (first|exact (Kd.Qf HO147.out).2.2|(with_reducible refine Kd.Qd ?_ _)|(with_reducible refine Kd.Qe ?_ _)|(with_reducible refine Kd.C_drew ?_)));(case side2=>exact (Kd.Qf HO147.out).2.1);(case side3=>repeat (first|exact (Kd.Qf HO152.out).2.2|(with_reducible refine Kd.Qd ?_ _)|(with_reducible refine Kd.Qe ?_ _)|(with_reducible refine Kd.C_drew ?_)));(case side4=>exact (Kd.Qf HO152.out).2.1);rintro e w' ⟨rfl,⟨nd,rfl⟩⟩))
                  go_meet
                  case rel=>exact ⟨_,(true),(by first|rfl|(simp;done)|(simp [*];done)),H',⟨by have:=HJ6.out;have:=HJ18.out;have:=HJ29.out;first|omega|exact Nat.le_refl _⟩,⟨by (with_reducible repeat (first|apply Kd.Qh|apply Kd.Qg|apply Kd.S_drew));exact Kd.S_mono HO138.out (fun _ hk=>⟨hk.1.1.1.1.1,hk.1.1.1.2⟩)⟩,⟨by (with_reducible repeat (first|apply Kd.Qh|apply Kd.Qg|apply Kd.S_drew));exact Kd.S_mono HO140.out (fun _ hk=>⟨hk.1.1.1.1.1,hk.1.1.1.2⟩)⟩,⟨by (with_reducible repeat (first|apply Kd.Qh|apply Kd.Qg|apply Kd.S_drew));exact Kd.S_mono HO147.out (fun _ hk=>⟨hk.1.1.1.1.1.2,hk.1.1.1.1.2⟩)⟩,⟨by repeat (first|(with_reducible first|exact HB.out|apply Qb|apply Qa|apply Qc)|exact HB.out)⟩⟩
                ·rw [if_neg c76] at H;have c76b0:(t154 != t159)=false:=by simpa using c76
                 (try (have c76b1:decide (t154=t159)=true:=by simpa using c76));(try (have c76b2:(t154 == t159)=true:=by simpa using c76));clear c76;replace H:=Option.bind_eq_some_iff.mp H;obtain ⟨t164,A790,H⟩:=H;replace H:(laws_FnFlows.j5 kj29 t134 t135 t143 t144 t145 (!t164))=some r:=H;have A79:=aM A790;clear A790
                 as_aux_lemma=>
                  have H':=aM H;clear H;obtain ⟨Ao80,co80,eo80⟩:=Kd.S_slice HO147.out;subst eo80;obtain ⟨Ao81,co81,eo81⟩:=Kd.S_slice HO152.out;subst eo81;go_wp2_with (first|(go_at_call 21;(with_reducible refine (laws_sameRows.calls kj29 _ _ t143 _ _ t148 true _ ?side1 ?side2 ?side3 ?side4 A71.out).mono ?_);(case side1=>repeat (first|exact (Kd.Qf HO147.out).2.2|(with_reducible refine Kd.Qd ?_ _)|(with_reducible refine Kd.Qe ?_ _)|(with_reducible refine Kd.C_drew ?_)));(case side2=>exact (Kd.Qf HO147.out).2.1);(case side3=>repeat (first|exact (Kd.Qf HO152.out).2.2|(with_reducible refine Kd.Qd ?_ _)|(with_reducible refine Kd.Qe ?_ _)|(with_reducible refine Kd.C_drew ?_)));(case side4=>exact (Kd.Qf HO152.out).2.1);rintro e w' ⟨rfl,⟨nd,rfl⟩⟩;obtain ⟨Ao82,co82,eo82⟩:=Kd.R_slice HO157.out;subst eo82;obtain ⟨Ao83,co83,eo83⟩:=Kd.R_slice HO162.out;subst eo83)|(go_at_call 28;(with_reducible refine (laws_sameInts.calls kj29 _ _ t153 _ _ t158 t164 _ ?side1 ?side2 ?side3 ?side4 A79.out).mono ?_);(case side1=>repeat (first|exact (Kd.R_reads' HO157.out).2.2|(with_reducible refine Kd.Qd ?_ _)|(with_reducible refine Kd.Qe ?_ _)|(with_reducible refine Kd.C_drew ?_)));(case side2=>exact (Kd.R_reads' HO157.out).2.1);(case side3=>repeat (first|exact (Kd.R_reads' HO162.out).2.2|(with_reducible refine Kd.Qd ?_ _)|(with_reducible refine Kd.Qe ?_ _)|(with_reducible refine Kd.C_drew ?_)));(case side4=>exact (Kd.R_reads' HO162.out).2.1);rintro e w' ⟨rfl,⟨nd,rfl⟩⟩))
                  go_meet
                  case rel=>exact ⟨_,(!t164),(by first|rfl|(simp;done)|(simp [*];done)),H',⟨by have:=HJ6.out;have:=HJ18.out;have:=HJ29.out;first|omega|exact Nat.le_refl _⟩,⟨by (with_reducible repeat (first|apply Kd.Qh|apply Kd.Qg|apply Kd.S_drew));exact Kd.S_mono HO138.out (fun _ hk=>⟨hk.1.1.1.1.1,hk.1.1.1.2⟩)⟩,⟨by (with_reducible repeat (first|apply Kd.Qh|apply Kd.Qg|apply Kd.S_drew));exact Kd.S_mono HO140.out (fun _ hk=>⟨hk.1.1.1.1.1,hk.1.1.1.2⟩)⟩,⟨by (with_reducible repeat (first|apply Kd.Qh|apply Kd.Qg|apply Kd.S_drew));exact Kd.S_mono HO147.out (fun _ hk=>⟨hk.1.1.1.1.1.2,hk.1.1.1.1.2⟩)⟩,⟨by repeat (first|(with_reducible first|exact HB.out|apply Qb|apply Qa|apply Qc)|exact HB.out)⟩⟩
              ·replace c72:=Bool.eq_false_iff.mpr c72;subst c72;have H1:(laws_FnFlows.j5 kj29 t134 t135 t143 t144 t145 true)=some r:=by rw [if_neg (show ¬ (false=true) by decide)] at H;exact H
               clear H;have H:=H1;clear H1
               as_aux_lemma=>
                have H':=aM H;clear H;obtain ⟨Ao84,co84,eo84⟩:=Kd.S_slice HO147.out;subst eo84;obtain ⟨Ao85,co85,eo85⟩:=Kd.S_slice HO152.out;subst eo85;go_wp2_with (first|(go_at_call 21;(with_reducible refine (laws_sameRows.calls kj29 _ _ t143 _ _ t148 false _ ?side1 ?side2 ?side3 ?side4 A71.out).mono ?_);(case side1=>repeat (first|exact (Kd.Qf HO147.out).2.2|(with_reducible refine Kd.Qd ?_ _)|(with_reducible refine Kd.Qe ?_ _)|(with_reducible refine Kd.C_drew ?_)));(case side2=>exact (Kd.Qf HO147.out).2.1);(case side3=>repeat (first|exact (Kd.Qf HO152.out).2.2|(with_reducible refine Kd.Qd ?_ _)|(with_reducible refine Kd.Qe ?_ _)|(with_reducible refine Kd.C_drew ?_)));(case side4=>exact (Kd.Qf HO152.out).2.1);rintro e w' ⟨rfl,⟨nd,rfl⟩⟩))
                go_meet
                case rel=>exact ⟨_,(true),(by first|rfl|(simp;done)|(simp [*];done)),H',⟨by have:=HJ6.out;have:=HJ18.out;have:=HJ29.out;first|omega|exact Nat.le_refl _⟩,⟨by (with_reducible repeat (first|apply Kd.Qh|apply Kd.Qg|apply Kd.S_drew));exact Kd.S_mono HO138.out (fun _ hk=>⟨hk.1.1.1.1.1,hk.1.1.1.2⟩)⟩,⟨by (with_reducible repeat (first|apply Kd.Qh|apply Kd.Qg|apply Kd.S_drew));exact Kd.S_mono HO140.out (fun _ hk=>⟨hk.1.1.1.1.1,hk.1.1.1.2⟩)⟩,⟨by (with_reducible repeat (first|apply Kd.Qh|apply Kd.Qg|apply Kd.S_drew));exact Kd.S_mono HO147.out (fun _ hk=>⟨hk.1.1.1.1.1.2,hk.1.1.1.1.2⟩)⟩,⟨by repeat (first|(with_reducible first|exact HB.out|apply Qb|apply Qa|apply Qc)|exact HB.out)⟩⟩
             ·rw [if_neg c70] at H;have c70b0:(t144 == t149)=false:=beq_eq_false_iff_ne.mpr c70;have c70b1:(t144 != t149)=true:=bne_iff_ne.mpr c70
              as_aux_lemma=>
               have H':=aM H;clear H;go_wp2
               go_meet
               case rel=>exact ⟨_,(true),(by first|rfl|(simp;done)|(simp [*];done)),H',⟨by have:=HJ6.out;have:=HJ18.out;have:=HJ29.out;first|omega|exact Nat.le_refl _⟩,⟨by (with_reducible repeat (first|apply Kd.Qh|apply Kd.Qg|apply Kd.S_drew));exact Kd.S_mono HO138.out (fun _ hk=>⟨hk.1.1.1.1.1,hk.1.1.1.2⟩)⟩,⟨by (with_reducible repeat (first|apply Kd.Qh|apply Kd.Qg|apply Kd.S_drew));exact Kd.S_mono HO140.out (fun _ hk=>⟨hk.1.1.1.1.1,hk.1.1.1.2⟩)⟩,⟨by (with_reducible repeat (first|apply Kd.Qh|apply Kd.Qg|apply Kd.S_drew));exact Kd.S_mono HO147.out (fun _ hk=>⟨hk.1.1.1.1.1.2,hk.1.1.1.1.2⟩)⟩,⟨by repeat (first|(with_reducible first|exact HB.out|apply Qb|apply Qa|apply Qc)|exact HB.out)⟩⟩
           case rest=>
            clear HC60;(try clear c1);(try clear c2);(try clear p2);(try clear c3);(try clear c3b0);(try clear c4);(try clear c5);(try clear c6);(try clear p6);(try clear c7);(try clear c12);(try clear c12b0);(try clear c12b1);(try clear c12b2);(try clear c13);(try clear c13b0);(try clear c13b1);(try clear c13b2);(try clear c15);(try clear c16);(try clear c17);(try clear c19);(try clear c20);(try clear c22);(try clear c22b0);(try clear c22b1);(try clear c22b2);(try clear c23);(try clear c24);(try clear c25);(try clear c26);(try clear c27);(try clear c29);(try clear c31);(try clear c40);(try clear c41);(try clear c42);(try clear c43);(try clear c43b0);(try clear c43b1);(try clear c44);(try clear c45);(try clear c47);(try clear c48);(try clear c50);(try clear c51);(try clear c51b0);(try clear c69);(try clear c69b0);(try clear c69b1);(try clear c69b2);(try clear c70);(try clear c70b0);(try clear c70b1);(try clear c72);(try clear c73);(try clear c73b0);(try clear c73b1);(try clear c73b2);(try clear c76);(try clear c76b0);(try clear c76b1);(try clear c76b2);(try clear p2);(try clear p6);obtain ⟨kq,x232_59,rfl,HA,HJ59,HO_26,HO_27,HO_29,HB⟩:=hcut
            cases kq with
            |zero=>exact absurd HA.out (by simp [laws_FnFlows.j5])
            |succ kj59=>
             have H:=HA.out;clear HA;simp only [laws_FnFlows.j5] at H;by_cases c86:x232_59=true
             ·subst c86;have H1:(some false)=some r:=by rw [if_pos rfl] at H;exact H
              clear H;have H:=H1;clear H1
              as_aux_lemma=>
               obtain rfl:=Option.some.inj H;go_wp2
               go_ret
               exact ⟨by first|rfl|(simp [errW_none,errW_some] <;> rfl)|(simp [*,errW_none,errW_some] <;> rfl),by repeat (first|(with_reducible first|exact HB.out|apply Qb|apply Qa|apply Qc)|exact HB.out)⟩
             ·replace c86:=Bool.eq_false_iff.mpr c86;subst c86;have H1:(if t145=true then ((impl_IsFlow.f kj59 t134 t143).bind fun bt165=>((impl_FlowValue.f kj59 t135).bind fun bt167=>((impl_FlowValue.f kj59 t143).bind fun bt169=>(if bt165.2=true then (if bt165.1=true then (if bt167.2=true then (if bt169.2=true then (if bt169.1=(wrap64 (bt167.1+t144)) then (some (decide (t144 > 0))) else (some false)) else (some false)) else (some false)) else (some false)) else (some false))))) else (some true))=some r:=by rw [if_neg (show ¬ (false=true) by decide)] at H;exact H
              clear H;have H:=H1;clear H1;by_cases c87:t145=true
              ·subst c87;have H1:((impl_IsFlow.f kj59 t134 t143).bind fun bt165=>((impl_FlowValue.f kj59 t135).bind fun bt167=>((impl_FlowValue.f kj59 t143).bind fun bt169=>(if bt165.2=true then (if bt165.1=true then (if bt167.2=true then (if bt169.2=true then (if bt169.1=(wrap64 (bt167.1+t144)) then (some (decide (t144 > 0))) else (some false)) else (some false)) else (some false)) else (some false)) else (some false)))))=some r:=by rw [if_pos rfl] at H;exact H
               clear H;have H:=H1;clear H1;replace H:=Option.bind_eq_some_iff.mp H;obtain ⟨⟨t165,t166⟩,A880,H⟩:=H;replace H:((impl_FlowValue.f kj59 t135).bind fun bt167=>((impl_FlowValue.f kj59 t143).bind fun bt169=>(if t166=true then (if t165=true then (if bt167.2=true then (if bt169.2=true then (if bt169.1=(wrap64 (bt167.1+t144)) then (some (decide (t144 > 0))) else (some false)) else (some false)) else (some false)) else (some false)) else (some false))))=some r:=H;have A88:=aM A880;clear A880;replace H:=Option.bind_eq_some_iff.mp H;obtain ⟨⟨t167,t168⟩,A890,H⟩:=H;replace H:((impl_FlowValue.f kj59 t143).bind fun bt169=>(if t166=true then (if t165=true then (if t168=true then (if bt169.2=true then (if bt169.1=(wrap64 (t167+t144)) then (some (decide (t144 > 0))) else (some false)) else (some false)) else (some false)) else (some false)) else (some false)))=some r:=H;have A89:=aM A890;clear A890;replace H:=Option.bind_eq_some_iff.mp H;obtain ⟨⟨t169,t170⟩,A900,H⟩:=H;replace H:(if t166=true then (if t165=true then (if t168=true then (if t170=true then (if t169=(wrap64 (t167+t144)) then (some (decide (t144 > 0))) else (some false)) else (some false)) else (some false)) else (some false)) else (some false))=some r:=H;have A90:=aM A900;clear A900;by_cases c91:t166=true
               ·subst c91;have H1:(if t165=true then (if t168=true then (if t170=true then (if t169=(wrap64 (t167+t144)) then (some (decide (t144 > 0))) else (some false)) else (some false)) else (some false)) else (some false))=some r:=by rw [if_pos rfl] at H;exact H
                clear H;have H:=H1;clear H1;by_cases c92:t165=true
                ·subst c92;have H1:(if t168=true then (if t170=true then (if t169=(wrap64 (t167+t144)) then (some (decide (t144 > 0))) else (some false)) else (some false)) else (some false))=some r:=by rw [if_pos rfl] at H;exact H
                 clear H;have H:=H1;clear H1;by_cases c93:t168=true
                 ·subst c93;have H1:(if t170=true then (if t169=(wrap64 (t167+t144)) then (some (decide (t144 > 0))) else (some false)) else (some false))=some r:=by rw [if_pos rfl] at H;exact H
                  clear H;have H:=H1;clear H1;by_cases c94:t170=true
                  ·subst c94;have H1:(if t169=(wrap64 (t167+t144)) then (some (decide (t144 > 0))) else (some false))=some r:=by rw [if_pos rfl] at H;exact H
                   clear H;have H:=H1;clear H1;by_cases c95:t169=(wrap64 (t167+t144))
                   ·rw [if_pos c95] at H;have c95b0:(t169 == (wrap64 (t167+t144)))=true:=beq_iff_eq.mpr c95;have c95b1:(t169 != (wrap64 (t167+t144)))=false:=bne_eq_false_iff_eq.mpr c95;clear c95
                    as_aux_lemma=>
                     obtain rfl:=Option.some.inj H;obtain ⟨Ao96,co96,eo96⟩:=Kd.S_slice HO_29.out;subst eo96;go_wp2_with (first|((with_reducible refine Qj (f:=16) rfl ?_);refine goesL_ (some 237) rfl rfl Try.func16 (by kernel_rfl) rfl #[.slice Ao62 t134.length co62,.slice Ao96 t143.length co96] rfl (by (try simp only [aD,aE,aF]);first|done|rfl|(simp only [aG,aH];rfl)) ?_;(with_reducible refine (impl_IsFlow.calls kj59 _ _ t134 _ _ t143 true true _ ?side1 ?side2 ?side3 ?side4 A88.out).mono ?_);(case side1=>repeat (first|exact (Kd.Qf HO_26.out).2.2|(with_reducible refine Kd.Qd ?_ _)|(with_reducible refine Kd.Qe ?_ _)|(with_reducible refine Kd.C_drew ?_)));(case side2=>exact (Kd.Qf HO_26.out).2.1);(case side3=>repeat (first|exact (Kd.Qf HO_29.out).2.2|(with_reducible refine Kd.Qd ?_ _)|(with_reducible refine Kd.Qe ?_ _)|(with_reducible refine Kd.C_drew ?_)));(case side4=>exact (Kd.Qf HO_29.out).2.1);rintro e w97 ⟨rfl,hb⟩;refine ⟨_,rfl,?_⟩;have n0_:=aM (Kd.S_below (by (with_reducible repeat (first|apply Kd.Qh|apply Kd.Qg|apply Kd.S_drew));exact HO_26.out) hb);have n1_:=aM (Kd.S_below (by (with_reducible repeat (first|apply Kd.Qh|apply Kd.Qg|apply Kd.S_drew));exact HO_27.out) hb);have n2_:=aM (Kd.S_below (by (with_reducible repeat (first|apply Kd.Qh|apply Kd.Qg|apply Kd.S_drew));exact HO_29.out) hb);have n3_:=aM (Qi (by repeat (first|(with_reducible first|exact HB.out|apply Qb|apply Qa|apply Qc)|exact HB.out)) hb);clear HO_26;clear HO_27;clear HO_29;clear HB;have HO_26:=n0_;have HO_27:=n1_;have HO_29:=n2_;have HB:=n3_;clear n0_ n1_ n2_ n3_;(try clear hb);(try clear hb2);(try clear hk);(try clear hi))|((with_reducible refine Qj (f:=22) rfl ?_);refine goesL_ (some 242) rfl rfl Try.func22 (by kernel_rfl) rfl #[.slice Ao63 t135.length co63] rfl (by (try simp only [aD,aE,aF]);first|done|rfl|(simp only [aG,aH];rfl)) ?_;(with_reducible refine (impl_FlowValue.calls kj59 _ _ t135 t167 true _ ?side1 ?side2 A89.out).mono ?_);(case side1=>repeat (first|exact (Kd.Qf HO_27.out).2.2|(with_reducible refine Kd.Qd ?_ _)|(with_reducible refine Kd.Qe ?_ _)|(with_reducible refine Kd.C_drew ?_)));(case side2=>exact (Kd.Qf HO_27.out).2.1);rintro e w98 ⟨rfl,hb⟩;refine ⟨_,rfl,?_⟩;have n0_:=aM (Kd.S_below (by (with_reducible repeat (first|apply Kd.Qh|apply Kd.Qg|apply Kd.S_drew));exact HO_26.out) hb);have n1_:=aM (Kd.S_below (by (with_reducible repeat (first|apply Kd.Qh|apply Kd.Qg|apply Kd.S_drew));exact HO_27.out) hb);have n2_:=aM (Kd.S_below (by (with_reducible repeat (first|apply Kd.Qh|apply Kd.Qg|apply Kd.S_drew));exact HO_29.out) hb);have n3_:=aM (Qi (by repeat (first|(with_reducible first|exact HB.out|apply Qb|apply Qa|apply Qc)|exact HB.out)) hb);clear HO_26;clear HO_27;clear HO_29;clear HB;have HO_26:=n0_;have HO_27:=n1_;have HO_29:=n2_;have HB:=n3_;clear n0_ n1_ n2_ n3_;(try clear hb);(try clear hb2);(try clear hk);(try clear hi))|((with_reducible refine Qj (f:=22) rfl ?_);refine goesL_ (some 247) rfl rfl Try.func22 (by kernel_rfl) rfl #[.slice Ao96 t143.length co96] rfl (by (try simp only [aD,aE,aF]);first|done|rfl|(simp only [aG,aH];rfl)) ?_;(with_reducible refine (impl_FlowValue.calls kj59 _ _ t143 t169 true _ ?side1 ?side2 A90.out).mono ?_);(case side1=>repeat (first|exact (Kd.Qf HO_29.out).2.2|(with_reducible refine Kd.Qd ?_ _)|(with_reducible refine Kd.Qe ?_ _)|(with_reducible refine Kd.C_drew ?_)));(case side2=>exact (Kd.Qf HO_29.out).2.1);rintro e w99 ⟨rfl,hb⟩;refine ⟨_,rfl,?_⟩;have n0_:=aM (Kd.S_below (by (with_reducible repeat (first|apply Kd.Qh|apply Kd.Qg|apply Kd.S_drew));exact HO_26.out) hb);have n1_:=aM (Kd.S_below (by (with_reducible repeat (first|apply Kd.Qh|apply Kd.Qg|apply Kd.S_drew));exact HO_27.out) hb);have n2_:=aM (Kd.S_below (by (with_reducible repeat (first|apply Kd.Qh|apply Kd.Qg|apply Kd.S_drew));exact HO_29.out) hb);have n3_:=aM (Qi (by repeat (first|(with_reducible first|exact HB.out|apply Qb|apply Qa|apply Qc)|exact HB.out)) hb);clear HO_26;clear HO_27;clear HO_29;clear HB;have HO_26:=n0_;have HO_27:=n1_;have HO_29:=n2_;have HB:=n3_;clear n0_ n1_ n2_ n3_;(try clear hb);(try clear hb2);(try clear hk);(try clear hi)))
                     go_ret
                     exact ⟨by first|rfl|(simp [errW_none,errW_some] <;> rfl)|(simp [*,errW_none,errW_some] <;> rfl),by repeat (first|(with_reducible first|exact HB.out|apply Qb|apply Qa|apply Qc)|exact HB.out)⟩
                   ·rw [if_neg c95] at H;have c95b0:(t169 == (wrap64 (t167+t144)))=false:=beq_eq_false_iff_ne.mpr c95;have c95b1:(t169 != (wrap64 (t167+t144)))=true:=bne_iff_ne.mpr c95
                    as_aux_lemma=>
                     obtain rfl:=Option.some.inj H;obtain ⟨Ao100,co100,eo100⟩:=Kd.S_slice HO_29.out;subst eo100;go_wp2_with (first|((with_reducible refine Qj (f:=16) rfl ?_);refine goesL_ (some 237) rfl rfl Try.func16 (by kernel_rfl) rfl #[.slice Ao62 t134.length co62,.slice Ao100 t143.length co100] rfl (by (try simp only [aD,aE,aF]);first|done|rfl|(simp only [aG,aH];rfl)) ?_;(with_reducible refine (impl_IsFlow.calls kj59 _ _ t134 _ _ t143 true true _ ?side1 ?side2 ?side3 ?side4 A88.out).mono ?_);(case side1=>repeat (first|exact (Kd.Qf HO_26.out).2.2|(with_reducible refine Kd.Qd ?_ _)|(with_reducible refine Kd.Qe ?_ _)|(with_reducible refine Kd.C_drew ?_)));(case side2=>exact (Kd.Qf HO_26.out).2.1);(case side3=>repeat (first|exact (Kd.Qf HO_29.out).2.2|(with_reducible refine Kd.Qd ?_ _)|(with_reducible refine Kd.Qe ?_ _)|(with_reducible refine Kd.C_drew ?_)));(case side4=>exact (Kd.Qf HO_29.out).2.1);rintro e w101 ⟨rfl,hb⟩;refine ⟨_,rfl,?_⟩;have n0_:=aM (Kd.S_below (by (with_reducible repeat (first|apply Kd.Qh|apply Kd.Qg|apply Kd.S_drew));exact HO_26.out) hb);have n1_:=aM (Kd.S_below (by (with_reducible repeat (first|apply Kd.Qh|apply Kd.Qg|apply Kd.S_drew));exact HO_27.out) hb);have n2_:=aM (Kd.S_below (by (with_reducible repeat (first|apply Kd.Qh|apply Kd.Qg|apply Kd.S_drew));exact HO_29.out) hb);have n3_:=aM (Qi (by repeat (first|(with_reducible first|exact HB.out|apply Qb|apply Qa|apply Qc)|exact HB.out)) hb);clear HO_26;clear HO_27;clear HO_29;clear HB;have HO_26:=n0_;have HO_27:=n1_;have HO_29:=n2_;have HB:=n3_;clear n0_ n1_ n2_ n3_;(try clear hb);(try clear hb2);(try clear hk);(try clear hi))|((with_reducible refine Qj (f:=22) rfl ?_);refine goesL_ (some 242) rfl rfl Try.func22 (by kernel_rfl) rfl #[.slice Ao63 t135.length co63] rfl (by (try simp only [aD,aE,aF]);first|done|rfl|(simp only [aG,aH];rfl)) ?_;(with_reducible refine (impl_FlowValue.calls kj59 _ _ t135 t167 true _ ?side1 ?side2 A89.out).mono ?_);(case side1=>repeat (first|exact (Kd.Qf HO_27.out).2.2|(with_reducible refine Kd.Qd ?_ _)|(with_reducible refine Kd.Qe ?_ _)|(with_reducible refine Kd.C_drew ?_)));(case side2=>exact (Kd.Qf HO_27.out).2.1);rintro e w102 ⟨rfl,hb⟩;refine ⟨_,rfl,?_⟩;have n0_:=aM (Kd.S_below (by (with_reducible repeat (first|apply Kd.Qh|apply Kd.Qg|apply Kd.S_drew));exact HO_26.out) hb);have n1_:=aM (Kd.S_below (by (with_reducible repeat (first|apply Kd.Qh|apply Kd.Qg|apply Kd.S_drew));exact HO_27.out) hb);have n2_:=aM (Kd.S_below (by (with_reducible repeat (first|apply Kd.Qh|apply Kd.Qg|apply Kd.S_drew));exact HO_29.out) hb);have n3_:=aM (Qi (by repeat (first|(with_reducible first|exact HB.out|apply Qb|apply Qa|apply Qc)|exact HB.out)) hb);clear HO_26;clear HO_27;clear HO_29;clear HB;have HO_26:=n0_;have HO_27:=n1_;have HO_29:=n2_;have HB:=n3_;clear n0_ n1_ n2_ n3_;(try clear hb);(try clear hb2);(try clear hk);(try clear hi))|((with_reducible refine Qj (f:=22) rfl ?_);refine goesL_ (some 247) rfl rfl Try.func22 (by kernel_rfl) rfl #[.slice Ao100 t143.length co100] rfl (by (try simp only [aD,aE,aF]);first|done|rfl|(simp only [aG,aH];rfl)) ?_;(with_reducible refine (impl_FlowValue.calls kj59 _ _ t143 t169 true _ ?side1 ?side2 A90.out).mono ?_);(case side1=>repeat (first|exact (Kd.Qf HO_29.out).2.2|(with_reducible refine Kd.Qd ?_ _)|(with_reducible refine Kd.Qe ?_ _)|(with_reducible refine Kd.C_drew ?_)));(case side2=>exact (Kd.Qf HO_29.out).2.1);rintro e w103 ⟨rfl,hb⟩;refine ⟨_,rfl,?_⟩;have n0_:=aM (Kd.S_below (by (with_reducible repeat (first|apply Kd.Qh|apply Kd.Qg|apply Kd.S_drew));exact HO_26.out) hb);have n1_:=aM (Kd.S_below (by (with_reducible repeat (first|apply Kd.Qh|apply Kd.Qg|apply Kd.S_drew));exact HO_27.out) hb);have n2_:=aM (Kd.S_below (by (with_reducible repeat (first|apply Kd.Qh|apply Kd.Qg|apply Kd.S_drew));exact HO_29.out) hb);have n3_:=aM (Qi (by repeat (first|(with_reducible first|exact HB.out|apply Qb|apply Qa|apply Qc)|exact HB.out)) hb);clear HO_26;clear HO_27;clear HO_29;clear HB;have HO_26:=n0_;have HO_27:=n1_;have HO_29:=n2_;have HB:=n3_;clear n0_ n1_ n2_ n3_;(try clear hb);(try clear hb2);(try clear hk);(try clear hi)))
                     go_ret
                     exact ⟨by first|rfl|(simp [errW_none,errW_some] <;> rfl)|(simp [*,errW_none,errW_some] <;> rfl),by repeat (first|(with_reducible first|exact HB.out|apply Qb|apply Qa|apply Qc)|exact HB.out)⟩
                  ·replace c94:=Bool.eq_false_iff.mpr c94;subst c94;have H1:(some false)=some r:=by rw [if_neg (show ¬ (false=true) by decide)] at H;exact H
                   clear H;have H:=H1;clear H1
                   as_aux_lemma=>
                    obtain rfl:=Option.some.inj H;obtain ⟨Ao104,co104,eo104⟩:=Kd.S_slice HO_29.out;subst eo104;go_wp2_with (first|((with_reducible refine Qj (f:=16) rfl ?_);refine goesL_ (some 237) rfl rfl Try.func16 (by kernel_rfl) rfl #[.slice Ao62 t134.length co62,.slice Ao104 t143.length co104] rfl (by (try simp only [aD,aE,aF]);first|done|rfl|(simp only [aG,aH];rfl)) ?_;(with_reducible refine (impl_IsFlow.calls kj59 _ _ t134 _ _ t143 true true _ ?side1 ?side2 ?side3 ?side4 A88.out).mono ?_);(case side1=>repeat (first|exact (Kd.Qf HO_26.out).2.2|(with_reducible refine Kd.Qd ?_ _)|(with_reducible refine Kd.Qe ?_ _)|(with_reducible refine Kd.C_drew ?_)));(case side2=>exact (Kd.Qf HO_26.out).2.1);(case side3=>repeat (first|exact (Kd.Qf HO_29.out).2.2|(with_reducible refine Kd.Qd ?_ _)|(with_reducible refine Kd.Qe ?_ _)|(with_reducible refine Kd.C_drew ?_)));(case side4=>exact (Kd.Qf HO_29.out).2.1);rintro e w105 ⟨rfl,hb⟩;refine ⟨_,rfl,?_⟩;have n0_:=aM (Kd.S_below (by (with_reducible repeat (first|apply Kd.Qh|apply Kd.Qg|apply Kd.S_drew));exact HO_26.out) hb);have n1_:=aM (Kd.S_below (by (with_reducible repeat (first|apply Kd.Qh|apply Kd.Qg|apply Kd.S_drew));exact HO_27.out) hb);have n2_:=aM (Kd.S_below (by (with_reducible repeat (first|apply Kd.Qh|apply Kd.Qg|apply Kd.S_drew));exact HO_29.out) hb);have n3_:=aM (Qi (by repeat (first|(with_reducible first|exact HB.out|apply Qb|apply Qa|apply Qc)|exact HB.out)) hb);clear HO_26;clear HO_27;clear HO_29;clear HB;have HO_26:=n0_;have HO_27:=n1_;have HO_29:=n2_;have HB:=n3_;clear n0_ n1_ n2_ n3_;(try clear hb);(try clear hb2);(try clear hk);(try clear hi))|((with_reducible refine Qj (f:=22) rfl ?_);refine goesL_ (some 242) rfl rfl Try.func22 (by kernel_rfl) rfl #[.slice Ao63 t135.length co63] rfl (by (try simp only [aD,aE,aF]);first|done|rfl|(simp only [aG,aH];rfl)) ?_;(with_reducible refine (impl_FlowValue.calls kj59 _ _ t135 t167 true _ ?side1 ?side2 A89.out).mono ?_);(case side1=>repeat (first|exact (Kd.Qf HO_27.out).2.2|(with_reducible refine Kd.Qd ?_ _)|(with_reducible refine Kd.Qe ?_ _)|(with_reducible refine Kd.C_drew ?_)));(case side2=>exact (Kd.Qf HO_27.out).2.1);rintro e w106 ⟨rfl,hb⟩;refine ⟨_,rfl,?_⟩;have n0_:=aM (Kd.S_below (by (with_reducible repeat (first|apply Kd.Qh|apply Kd.Qg|apply Kd.S_drew));exact HO_26.out) hb);have n1_:=aM (Kd.S_below (by (with_reducible repeat (first|apply Kd.Qh|apply Kd.Qg|apply Kd.S_drew));exact HO_27.out) hb);have n2_:=aM (Kd.S_below (by (with_reducible repeat (first|apply Kd.Qh|apply Kd.Qg|apply Kd.S_drew));exact HO_29.out) hb);have n3_:=aM (Qi (by repeat (first|(with_reducible first|exact HB.out|apply Qb|apply Qa|apply Qc)|exact HB.out)) hb);clear HO_26;clear HO_27;clear HO_29;clear HB;have HO_26:=n0_;have HO_27:=n1_;have HO_29:=n2_;have HB:=n3_;clear n0_ n1_ n2_ n3_;(try clear hb);(try clear hb2);(try clear hk);(try clear hi))|((with_reducible refine Qj (f:=22) rfl ?_);refine goesL_ (some 247) rfl rfl Try.func22 (by kernel_rfl) rfl #[.slice Ao104 t143.length co104] rfl (by (try simp only [aD,aE,aF]);first|done|rfl|(simp only [aG,aH];rfl)) ?_;(with_reducible refine (impl_FlowValue.calls kj59 _ _ t143 t169 false _ ?side1 ?side2 A90.out).mono ?_);(case side1=>repeat (first|exact (Kd.Qf HO_29.out).2.2|(with_reducible refine Kd.Qd ?_ _)|(with_reducible refine Kd.Qe ?_ _)|(with_reducible refine Kd.C_drew ?_)));(case side2=>exact (Kd.Qf HO_29.out).2.1);rintro e w107 ⟨rfl,hb⟩;refine ⟨_,rfl,?_⟩;have n0_:=aM (Kd.S_below (by (with_reducible repeat (first|apply Kd.Qh|apply Kd.Qg|apply Kd.S_drew));exact HO_26.out) hb);have n1_:=aM (Kd.S_below (by (with_reducible repeat (first|apply Kd.Qh|apply Kd.Qg|apply Kd.S_drew));exact HO_27.out) hb);have n2_:=aM (Kd.S_below (by (with_reducible repeat (first|apply Kd.Qh|apply Kd.Qg|apply Kd.S_drew));exact HO_29.out) hb);have n3_:=aM (Qi (by repeat (first|(with_reducible first|exact HB.out|apply Qb|apply Qa|apply Qc)|exact HB.out)) hb);clear HO_26;clear HO_27;clear HO_29;clear HB;have HO_26:=n0_;have HO_27:=n1_;have HO_29:=n2_;have HB:=n3_;clear n0_ n1_ n2_ n3_;(try clear hb);(try clear hb2);(try clear hk);(try clear hi)))
                    go_ret
                    exact ⟨by first|rfl|(simp [errW_none,errW_some] <;> rfl)|(simp [*,errW_none,errW_some] <;> rfl),by repeat (first|(with_reducible first|exact HB.out|apply Qb|apply Qa|apply Qc)|exact HB.out)⟩
                 ·replace c93:=Bool.eq_false_iff.mpr c93;subst c93;have H1:(some false)=some r:=by rw [if_neg (show ¬ (false=true) by decide)] at H;exact H
                  clear H;have H:=H1;clear H1
                  as_aux_lemma=>
                   obtain rfl:=Option.some.inj H;obtain ⟨Ao108,co108,eo108⟩:=Kd.S_slice HO_29.out;subst eo108;go_wp2_with (first|((with_reducible refine Qj (f:=16) rfl ?_);refine goesL_ (some 237) rfl rfl Try.func16 (by kernel_rfl) rfl #[.slice Ao62 t134.length co62,.slice Ao108 t143.length co108] rfl (by (try simp only [aD,aE,aF]);first|done|rfl|(simp only [aG,aH];rfl)) ?_;(with_reducible refine (impl_IsFlow.calls kj59 _ _ t134 _ _ t143 true true _ ?side1 ?side2 ?side3 ?side4 A88.out).mono ?_);(case side1=>repeat (first|exact (Kd.Qf HO_26.out).2.2|(with_reducible refine Kd.Qd ?_ _)|(with_reducible refine Kd.Qe ?_ _)|(with_reducible refine Kd.C_drew ?_)));(case side2=>exact (Kd.Qf HO_26.out).2.1);(case side3=>repeat (first|exact (Kd.Qf HO_29.out).2.2|(with_reducible refine Kd.Qd ?_ _)|(with_reducible refine Kd.Qe ?_ _)|(with_reducible refine Kd.C_drew ?_)));(case side4=>exact (Kd.Qf HO_29.out).2.1);rintro e w109 ⟨rfl,hb⟩;refine ⟨_,rfl,?_⟩;have n0_:=aM (Kd.S_below (by (with_reducible repeat (first|apply Kd.Qh|apply Kd.Qg|apply Kd.S_drew));exact HO_26.out) hb);have n1_:=aM (Kd.S_below (by (with_reducible repeat (first|apply Kd.Qh|apply Kd.Qg|apply Kd.S_drew));exact HO_27.out) hb);have n2_:=aM (Kd.S_below (by (with_reducible repeat (first|apply Kd.Qh|apply Kd.Qg|apply Kd.S_drew));exact HO_29.out) hb);have n3_:=aM (Qi (by repeat (first|(with_reducible first|exact HB.out|apply Qb|apply Qa|apply Qc)|exact HB.out)) hb);clear HO_26;clear HO_27;clear HO_29;clear HB;have HO_26:=n0_;have HO_27:=n1_;have HO_29:=n2_;have HB:=n3_;clear n0_ n1_ n2_ n3_;(try clear hb);(try clear hb2);(try clear hk);(try clear hi))|((with_reducible refine Qj (f:=22) rfl ?_);refine goesL_ (some 242) rfl rfl Try.func22 (by kernel_rfl) rfl #[.slice Ao63 t135.length co63] rfl (by (try simp only [aD,aE,aF]);first|done|rfl|(simp only [aG,aH];rfl)) ?_;(with_reducible refine (impl_FlowValue.calls kj59 _ _ t135 t167 false _ ?side1 ?side2 A89.out).mono ?_);(case side1=>repeat (first|exact (Kd.Qf HO_27.out).2.2|(with_reducible refine Kd.Qd ?_ _)|(with_reducible refine Kd.Qe ?_ _)|(with_reducible refine Kd.C_drew ?_)));(case side2=>exact (Kd.Qf HO_27.out).2.1);rintro e w110 ⟨rfl,hb⟩;refine ⟨_,rfl,?_⟩;have n0_:=aM (Kd.S_below (by (with_reducible repeat (first|apply Kd.Qh|apply Kd.Qg|apply Kd.S_drew));exact HO_26.out) hb);have n1_:=aM (Kd.S_below (by (with_reducible repeat (first|apply Kd.Qh|apply Kd.Qg|apply Kd.S_drew));exact HO_27.out) hb);have n2_:=aM (Kd.S_below (by (with_reducible repeat (first|apply Kd.Qh|apply Kd.Qg|apply Kd.S_drew));exact HO_29.out) hb);have n3_:=aM (Qi (by repeat (first|(with_reducible first|exact HB.out|apply Qb|apply Qa|apply Qc)|exact HB.out)) hb);clear HO_26;clear HO_27;clear HO_29;clear HB;have HO_26:=n0_;have HO_27:=n1_;have HO_29:=n2_;have HB:=n3_;clear n0_ n1_ n2_ n3_;(try clear hb);(try clear hb2);(try clear hk);(try clear hi))|((with_reducible refine Qj (f:=22) rfl ?_);refine goesL_ (some 247) rfl rfl Try.func22 (by kernel_rfl) rfl #[.slice Ao108 t143.length co108] rfl (by (try simp only [aD,aE,aF]);first|done|rfl|(simp only [aG,aH];rfl)) ?_;(with_reducible refine (impl_FlowValue.calls kj59 _ _ t143 t169 t170 _ ?side1 ?side2 A90.out).mono ?_);(case side1=>repeat (first|exact (Kd.Qf HO_29.out).2.2|(with_reducible refine Kd.Qd ?_ _)|(with_reducible refine Kd.Qe ?_ _)|(with_reducible refine Kd.C_drew ?_)));(case side2=>exact (Kd.Qf HO_29.out).2.1);rintro e w111 ⟨rfl,hb⟩;refine ⟨_,rfl,?_⟩;have n0_:=aM (Kd.S_below (by (with_reducible repeat (first|apply Kd.Qh|apply Kd.Qg|apply Kd.S_drew));exact HO_26.out) hb);have n1_:=aM (Kd.S_below (by (with_reducible repeat (first|apply Kd.Qh|apply Kd.Qg|apply Kd.S_drew));exact HO_27.out) hb);have n2_:=aM (Kd.S_below (by (with_reducible repeat (first|apply Kd.Qh|apply Kd.Qg|apply Kd.S_drew));exact HO_29.out) hb);have n3_:=aM (Qi (by repeat (first|(with_reducible first|exact HB.out|apply Qb|apply Qa|apply Qc)|exact HB.out)) hb);clear HO_26;clear HO_27;clear HO_29;clear HB;have HO_26:=n0_;have HO_27:=n1_;have HO_29:=n2_;have HB:=n3_;clear n0_ n1_ n2_ n3_;(try clear hb);(try clear hb2);(try clear hk);(try clear hi)))
                   go_ret
                   exact ⟨by first|rfl|(simp [errW_none,errW_some] <;> rfl)|(simp [*,errW_none,errW_some] <;> rfl),by repeat (first|(with_reducible first|exact HB.out|apply Qb|apply Qa|apply Qc)|exact HB.out)⟩
                ·replace c92:=Bool.eq_false_iff.mpr c92;subst c92;have H1:(some false)=some r:=by rw [if_neg (show ¬ (false=true) by decide)] at H;exact H
                 clear H;have H:=H1;clear H1
                 as_aux_lemma=>
                  obtain rfl:=Option.some.inj H;obtain ⟨Ao112,co112,eo112⟩:=Kd.S_slice HO_29.out;subst eo112;go_wp2_with (first|((with_reducible refine Qj (f:=16) rfl ?_);refine goesL_ (some 237) rfl rfl Try.func16 (by kernel_rfl) rfl #[.slice Ao62 t134.length co62,.slice Ao112 t143.length co112] rfl (by (try simp only [aD,aE,aF]);first|done|rfl|(simp only [aG,aH];rfl)) ?_;(with_reducible refine (impl_IsFlow.calls kj59 _ _ t134 _ _ t143 false true _ ?side1 ?side2 ?side3 ?side4 A88.out).mono ?_);(case side1=>repeat (first|exact (Kd.Qf HO_26.out).2.2|(with_reducible refine Kd.Qd ?_ _)|(with_reducible refine Kd.Qe ?_ _)|(with_reducible refine Kd.C_drew ?_)));(case side2=>exact (Kd.Qf HO_26.out).2.1);(case side3=>repeat (first|exact (Kd.Qf HO_29.out).2.2|(with_reducible refine Kd.Qd ?_ _)|(with_reducible refine Kd.Qe ?_ _)|(with_reducible refine Kd.C_drew ?_)));(case side4=>exact (Kd.Qf HO_29.out).2.1);rintro e w113 ⟨rfl,hb⟩;refine ⟨_,rfl,?_⟩;have n0_:=aM (Kd.S_below (by (with_reducible repeat (first|apply Kd.Qh|apply Kd.Qg|apply Kd.S_drew));exact HO_26.out) hb);have n1_:=aM (Kd.S_below (by (with_reducible repeat (first|apply Kd.Qh|apply Kd.Qg|apply Kd.S_drew));exact HO_27.out) hb);have n2_:=aM (Kd.S_below (by (with_reducible repeat (first|apply Kd.Qh|apply Kd.Qg|apply Kd.S_drew));exact HO_29.out) hb);have n3_:=aM (Qi (by repeat (first|(with_reducible first|exact HB.out|apply Qb|apply Qa|apply Qc)|exact HB.out)) hb);clear HO_26;clear HO_27;clear HO_29;clear HB;have HO_26:=n0_;have HO_27:=n1_;have HO_29:=n2_;have HB:=n3_;clear n0_ n1_ n2_ n3_;(try clear hb);(try clear hb2);(try clear hk);(try clear hi))|((with_reducible refine Qj (f:=22) rfl ?_);refine goesL_ (some 242) rfl rfl Try.func22 (by kernel_rfl) rfl #[.slice Ao63 t135.length co63] rfl (by (try simp only [aD,aE,aF]);first|done|rfl|(simp only [aG,aH];rfl)) ?_;(with_reducible refine (impl_FlowValue.calls kj59 _ _ t135 t167 t168 _ ?side1 ?side2 A89.out).mono ?_);(case side1=>repeat (first|exact (Kd.Qf HO_27.out).2.2|(with_reducible refine Kd.Qd ?_ _)|(with_reducible refine Kd.Qe ?_ _)|(with_reducible refine Kd.C_drew ?_)));(case side2=>exact (Kd.Qf HO_27.out).2.1);rintro e w114 ⟨rfl,hb⟩;refine ⟨_,rfl,?_⟩;have n0_:=aM (Kd.S_below (by (with_reducible repeat (first|apply Kd.Qh|apply Kd.Qg|apply Kd.S_drew));exact HO_26.out) hb);have n1_:=aM (Kd.S_below (by (with_reducible repeat (first|apply Kd.Qh|apply Kd.Qg|apply Kd.S_drew));exact HO_27.out) hb);have n2_:=aM (Kd.S_below (by (with_reducible repeat (first|apply Kd.Qh|apply Kd.Qg|apply Kd.S_drew));exact HO_29.out) hb);have n3_:=aM (Qi (by repeat (first|(with_reducible first|exact HB.out|apply Qb|apply Qa|apply Qc)|exact HB.out)) hb);clear HO_26;clear HO_27;clear HO_29;clear HB;have HO_26:=n0_;have HO_27:=n1_;have HO_29:=n2_;have HB:=n3_;clear n0_ n1_ n2_ n3_;(try clear hb);(try clear hb2);(try clear hk);(try clear hi))|((with_reducible refine Qj (f:=22) rfl ?_);refine goesL_ (some 247) rfl rfl Try.func22 (by kernel_rfl) rfl #[.slice Ao112 t143.length co112] rfl (by (try simp only [aD,aE,aF]);first|done|rfl|(simp only [aG,aH];rfl)) ?_;(with_reducible refine (impl_FlowValue.calls kj59 _ _ t143 t169 t170 _ ?side1 ?side2 A90.out).mono ?_);(case side1=>repeat (first|exact (Kd.Qf HO_29.out).2.2|(with_reducible refine Kd.Qd ?_ _)|(with_reducible refine Kd.Qe ?_ _)|(with_reducible refine Kd.C_drew ?_)));(case side2=>exact (Kd.Qf HO_29.out).2.1);rintro e w115 ⟨rfl,hb⟩;refine ⟨_,rfl,?_⟩;have n0_:=aM (Kd.S_below (by (with_reducible repeat (first|apply Kd.Qh|apply Kd.Qg|apply Kd.S_drew));exact HO_26.out) hb);have n1_:=aM (Kd.S_below (by (with_reducible repeat (first|apply Kd.Qh|apply Kd.Qg|apply Kd.S_drew));exact HO_27.out) hb);have n2_:=aM (Kd.S_below (by (with_reducible repeat (first|apply Kd.Qh|apply Kd.Qg|apply Kd.S_drew));exact HO_29.out) hb);have n3_:=aM (Qi (by repeat (first|(with_reducible first|exact HB.out|apply Qb|apply Qa|apply Qc)|exact HB.out)) hb);clear HO_26;clear HO_27;clear HO_29;clear HB;have HO_26:=n0_;have HO_27:=n1_;have HO_29:=n2_;have HB:=n3_;clear n0_ n1_ n2_ n3_;(try clear hb);(try clear hb2);(try clear hk);(try clear hi)))
                  go_ret
                  exact ⟨by first|rfl|(simp [errW_none,errW_some] <;> rfl)|(simp [*,errW_none,errW_some] <;> rfl),by repeat (first|(with_reducible first|exact HB.out|apply Qb|apply Qa|apply Qc)|exact HB.out)⟩
               ·replace c91:=Bool.eq_false_iff.mpr c91;subst c91;have H1:(some false)=some r:=by rw [if_neg (show ¬ (false=true) by decide)] at H;exact H
                clear H;have H:=H1;clear H1
                as_aux_lemma=>
                 obtain rfl:=Option.some.inj H;obtain ⟨Ao116,co116,eo116⟩:=Kd.S_slice HO_29.out;subst eo116;go_wp2_with (first|((with_reducible refine Qj (f:=16) rfl ?_);refine goesL_ (some 237) rfl rfl Try.func16 (by kernel_rfl) rfl #[.slice Ao62 t134.length co62,.slice Ao116 t143.length co116] rfl (by (try simp only [aD,aE,aF]);first|done|rfl|(simp only [aG,aH];rfl)) ?_;(with_reducible refine (impl_IsFlow.calls kj59 _ _ t134 _ _ t143 t165 false _ ?side1 ?side2 ?side3 ?side4 A88.out).mono ?_);(case side1=>repeat (first|exact (Kd.Qf HO_26.out).2.2|(with_reducible refine Kd.Qd ?_ _)|(with_reducible refine Kd.Qe ?_ _)|(with_reducible refine Kd.C_drew ?_)));(case side2=>exact (Kd.Qf HO_26.out).2.1);(case side3=>repeat (first|exact (Kd.Qf HO_29.out).2.2|(with_reducible refine Kd.Qd ?_ _)|(with_reducible refine Kd.Qe ?_ _)|(with_reducible refine Kd.C_drew ?_)));(case side4=>exact (Kd.Qf HO_29.out).2.1);rintro e w117 ⟨rfl,hb⟩;refine ⟨_,rfl,?_⟩;have n0_:=aM (Kd.S_below (by (with_reducible repeat (first|apply Kd.Qh|apply Kd.Qg|apply Kd.S_drew));exact HO_26.out) hb);have n1_:=aM (Kd.S_below (by (with_reducible repeat (first|apply Kd.Qh|apply Kd.Qg|apply Kd.S_drew));exact HO_27.out) hb);have n2_:=aM (Kd.S_below (by (with_reducible repeat (first|apply Kd.Qh|apply Kd.Qg|apply Kd.S_drew));exact HO_29.out) hb);have n3_:=aM (Qi (by repeat (first|(with_reducible first|exact HB.out|apply Qb|apply Qa|apply Qc)|exact HB.out)) hb);clear HO_26;clear HO_27;clear HO_29;clear HB;have HO_26:=n0_;have HO_27:=n1_;have HO_29:=n2_;have HB:=n3_;clear n0_ n1_ n2_ n3_;(try clear hb);(try clear hb2);(try clear hk);(try clear hi))|((with_reducible refine Qj (f:=22) rfl ?_);refine goesL_ (some 242) rfl rfl Try.func22 (by kernel_rfl) rfl #[.slice Ao63 t135.length co63] rfl (by (try simp only [aD,aE,aF]);first|done|rfl|(simp only [aG,aH];rfl)) ?_;(with_reducible refine (impl_FlowValue.calls kj59 _ _ t135 t167 t168 _ ?side1 ?side2 A89.out).mono ?_);(case side1=>repeat (first|exact (Kd.Qf HO_27.out).2.2|(with_reducible refine Kd.Qd ?_ _)|(with_reducible refine Kd.Qe ?_ _)|(with_reducible refine Kd.C_drew ?_)));(case side2=>exact (Kd.Qf HO_27.out).2.1);rintro e w118 ⟨rfl,hb⟩;refine ⟨_,rfl,?_⟩;have n0_:=aM (Kd.S_below (by (with_reducible repeat (first|apply Kd.Qh|apply Kd.Qg|apply Kd.S_drew));exact HO_26.out) hb);have n1_:=aM (Kd.S_below (by (with_reducible repeat (first|apply Kd.Qh|apply Kd.Qg|apply Kd.S_drew));exact HO_27.out) hb);have n2_:=aM (Kd.S_below (by (with_reducible repeat (first|apply Kd.Qh|apply Kd.Qg|apply Kd.S_drew));exact HO_29.out) hb);have n3_:=aM (Qi (by repeat (first|(with_reducible first|exact HB.out|apply Qb|apply Qa|apply Qc)|exact HB.out)) hb);clear HO_26;clear HO_27;clear HO_29;clear HB;have HO_26:=n0_;have HO_27:=n1_;have HO_29:=n2_;have HB:=n3_;clear n0_ n1_ n2_ n3_;(try clear hb);(try clear hb2);(try clear hk);(try clear hi))|((with_reducible refine Qj (f:=22) rfl ?_);refine goesL_ (some 247) rfl rfl Try.func22 (by kernel_rfl) rfl #[.slice Ao116 t143.length co116] rfl (by (try simp only [aD,aE,aF]);first|done|rfl|(simp only [aG,aH];rfl)) ?_;(with_reducible refine (impl_FlowValue.calls kj59 _ _ t143 t169 t170 _ ?side1 ?side2 A90.out).mono ?_);(case side1=>repeat (first|exact (Kd.Qf HO_29.out).2.2|(with_reducible refine Kd.Qd ?_ _)|(with_reducible refine Kd.Qe ?_ _)|(with_reducible refine Kd.C_drew ?_)));(case side2=>exact (Kd.Qf HO_29.out).2.1);rintro e w119 ⟨rfl,hb⟩;refine ⟨_,rfl,?_⟩;have n0_:=aM (Kd.S_below (by (with_reducible repeat (first|apply Kd.Qh|apply Kd.Qg|apply Kd.S_drew));exact HO_26.out) hb);have n1_:=aM (Kd.S_below (by (with_reducible repeat (first|apply Kd.Qh|apply Kd.Qg|apply Kd.S_drew));exact HO_27.out) hb);have n2_:=aM (Kd.S_below (by (with_reducible repeat (first|apply Kd.Qh|apply Kd.Qg|apply Kd.S_drew));exact HO_29.out) hb);have n3_:=aM (Qi (by repeat (first|(with_reducible first|exact HB.out|apply Qb|apply Qa|apply Qc)|exact HB.out)) hb);clear HO_26;clear HO_27;clear HO_29;clear HB;have HO_26:=n0_;have HO_27:=n1_;have HO_29:=n2_;have HB:=n3_;clear n0_ n1_ n2_ n3_;(try clear hb);(try clear hb2);(try clear hk);(try clear hi)))
                 go_ret
                 exact ⟨by first|rfl|(simp [errW_none,errW_some] <;> rfl)|(simp [*,errW_none,errW_some] <;> rfl),by repeat (first|(with_reducible first|exact HB.out|apply Qb|apply Qa|apply Qc)|exact HB.out)⟩
              ·replace c87:=Bool.eq_false_iff.mpr c87;subst c87;have H1:(some true)=some r:=by rw [if_neg (show ¬ (false=true) by decide)] at H;exact H
               clear H;have H:=H1;clear H1
               as_aux_lemma=>
                obtain rfl:=Option.some.inj H;go_wp2
                go_ret
                exact ⟨by first|rfl|(simp [errW_none,errW_some] <;> rfl)|(simp [*,errW_none,errW_some] <;> rfl),by repeat (first|(with_reducible first|exact HB.out|apply Qb|apply Qa|apply Qc)|exact HB.out)⟩

/-- THE ONE PURE STATEMENT of laws_FnFlows:yours. -/
def laws_FnFlows.Pure:Prop:=∀ (l0:List Int) (l1:List Int),l0.length≤maxLen→l0.length * 1≤140737488351232→(∀ x ∈ l0,(Lit.int .u8 x).wf=true)→l1.length≤maxLen→l1.length * 1≤140737488351232→(∀ x ∈ l1,(Lit.int .u8 x).wf=true)→∃ k,laws_FnFlows.f k l0 l1=some true
theorem laws_FnFlows.walk (P:laws_FnFlows.Pure) (a0:Option Addr) (len0 cap0:Nat) (z0:List Int) (a1:Option Addr) (len1 cap1:Nat) (z1:List Int) (w:World) (w0:(a0=none∧len0=0∧cap0=0∧z0=[])∨∃ x,a0=some x∧len0≤cap0∧cap0≤maxLen∧z0.length=cap0∧(∀ i,i<z0.length→w.cell? (x.add i)=some (.int .u8 (z0.getD i 0)))∧∀ n ∈ z0,(Lit.int .u8 n).wf=true) (y0:len0 * 1≤140737488351232) (w1:(a1=none∧len1=0∧cap1=0∧z1=[])∨∃ x,a1=some x∧len1≤cap1∧cap1≤maxLen∧z1.length=cap1∧(∀ i,i<z1.length→w.cell? (x.add i)=some (.int .u8 (z1.getD i 0)))∧∀ n ∈ z1,(Lit.int .u8 n).wf=true) (y1:len1 * 1≤140737488351232) :
    Calls Try.prog 3 #[.slice a0 len0 cap0,.slice a1 len1 cap1] w fun e w'=>e= .returned (.bool true)∧Below w.heap.size w w':=by
  obtain ⟨l0,rfl,hr0,hm0,hw0,hc0⟩:=ReadsInt.ofRowC w0;obtain ⟨l1,rfl,hr1,hm1,hw1,hc1⟩:=ReadsInt.ofRowC w1;obtain ⟨k,h⟩:=P l0 l1 hm0 y0 hw0 hm1 y1 hw1;refine (laws_FnFlows.calls k _ _ l0 _ _ l1 true w (Kd.C_of_reads (d:=(0:Int)) (h1:=fun _=>rfl) hr0) hc0 (Kd.C_of_reads (d:=(0:Int)) (h1:=fun _=>rfl) hr1) hc1 h).mono ?_
  rintro e w' ⟨rfl,hd⟩
  exact ⟨rfl,hd⟩
end Go.Proofs.Ytneojimdhnhkeaa.Print
namespace Go.Proofs.Ytneojimdhnhkeaa.Pure
open Go.RowKit Go.Proofs.Ytneojimdhnhkeaa.Print Go.Proofs.YtneojimdhnhkeaaW.PrintWords Go.Proofs.YtneojimdhnhkeaaW.PrintLast Go.Proofs.YtneojimdhnhkeaaW.PrintMore

theorem Ev.of_eq {α : Type} {g : Nat → Option α} {r : α} (h : ∀ k, g k = some r) : Ev g r := ⟨0, fun k _ => h k⟩
theorem Ev.bind0 {α β : Type} {o : Option α} {f : Nat → α → Option β} {a : α} {r : β} (h : o = some a) (k : Ev (fun n => f n a) r) : Ev (fun n => o.bind (f n)) r := by
  subst h; exact k
theorem Ev.pos {α : Type} {c : Prop} [Decidable c] {g f : Nat → Option α} {r : α} (h : c) (k : Ev g r) : Ev (fun n => if c then g n else f n) r := by
  simpa only [if_pos h] using k
theorem Ev.neg {α : Type} {c : Prop} [Decidable c] {g f : Nat → Option α} {r : α} (h : ¬ c) (k : Ev f r) : Ev (fun n => if c then g n else f n) r := by
  simpa only [if_neg h] using k
theorem Ev.ite {α : Type} {c : Prop} [Decidable c] {g f : Nat → Option α} {r : α} (h : c → Ev g r) (k : ¬ c → Ev f r) : Ev (fun n => if c then g n else f n) r := by
  by_cases hc : c
  · exact Ev.pos hc (h hc)
  · exact Ev.neg hc (k hc)
theorem Ev.step0 {α : Type} {g f : Nat → Option α} {r : α} (k : Ev f r) (h : ∀ k, g (k + 1) = f k) : Ev g r := Ev.step h k
theorem Ev.to {α : Type} {g : Nat → Option α} {r s : α} (k : Ev g r) (h : r = s) : Ev g s := h ▸ k
theorem ev_up {β : Type} (n : Nat) (g : Nat → Nat → Option β) (r : β) (I : Nat → Prop) (h0 : I 0)
    (hend : I n → Ev (fun k => g k n) r) (hstep : ∀ i, i < n → I i → (I (i + 1) → Ev (fun k => g k (i + 1)) r) → Ev (fun k => g k i) r) : Ev (fun k => g k 0) r := by
  have h : ∀ d i, i + d = n → I i → Ev (fun k => g k i) r := by
    intro d
    induction d with
    | zero => intro i hi hI; obtain rfl : i = n := by omega
              exact hend hI
    | succ d ih => intro i hi hI; exact hstep i (by omega) hI fun hI' => ih (i + 1) (by omega) hI'
  exact h n 0 (by omega) h0
theorem w64 {x : Int} (h1 : -9223372036854775808 ≤ x) (h2 : x < 9223372036854775808) : wrap64 x = x := by unfold wrap64; omega
theorem rd_nat (l : List Int) (i : Nat) (h : i < l.length) : rd l (i : Int) = l[i] := by simp [rd, h]
theorem toNat_nat (i : Nat) : ((i : Int)).toNat = i := Int.toNat_natCast i
theorem lt_len {α : Type} {l : List α} {i : Nat} (h : i < l.length) : (i : Int) < (l.length : Int) := by omega
def allIn (l : List Int) (lo hi : Int) : Bool := l.all fun x => decide (lo ≤ x) && decide (x ≤ hi)
theorem allIn_iff (l : List Int) (lo hi : Int) : allIn l lo hi = true ↔ ∀ x ∈ l, lo ≤ x ∧ x ≤ hi := by
  simp [allIn, List.all_eq_true]
theorem all_take_false {α : Type} (l : List α) (p : α → Bool) (i : Nat) (h : i < l.length) (hp : p l[i] = false) : l.all p = false := by
  rw [List.all_eq_false]; exact ⟨l[i], List.getElem_mem h, by simp [hp]⟩
theorem all_take_succ {α : Type} (l : List α) (p : α → Bool) (i : Nat) (h : i < l.length) (ht : (l.take i).all p = true) (hp : p l[i] = true) : (l.take (i + 1)).all p = true := by
  rw [List.take_succ_eq_append_getElem h, List.all_append, ht]; simp [hp]
theorem Ev.succ {α : Type} {g : Nat → Option α} {r : α} (h : Ev (fun k => g (k + 1)) r) : Ev g r := Ev.step (fun _ => rfl) h
theorem exists_nat_of_nonneg {x : Int} (h : 0 ≤ x) : ∃ n : Nat, x = n := ⟨x.toNat, by omega⟩

def bytesOk (l : List Int) : Prop := ∀ x ∈ l, 0 ≤ x ∧ x ≤ 255
theorem wf_u8 {x : Int} (h : (Lit.int .u8 x).wf = true) : 0 ≤ x ∧ x ≤ 255 := by
  have h' : decide (IntKind.u8.min ≤ x) && decide (x ≤ IntKind.u8.max) := h
  simp only [Bool.and_eq_true, decide_eq_true_eq] at h'
  have e1 : IntKind.u8.min = 0 := by decide
  have e2 : IntKind.u8.max = 255 := by decide
  omega
theorem bytesOk_of (l : List Int) (h : ∀ x ∈ l, (Lit.int .u8 x).wf = true) : bytesOk l := fun x hx => wf_u8 (h x hx)
theorem u64_range (x : Int) : 0 ≤ IntKind.u64.wrap x ∧ IntKind.u64.wrap x < 18446744073709551616 := by
  have e : IntKind.u64.wrap x = x % 18446744073709551616 := by simp [IntKind.wrap, IntKind.bits, IntKind.signed]
  rw [e]; omega
theorem and_255 (x : Int) (h0 : 0 ≤ x) (h1 : x < 18446744073709551616) : 0 ≤ Go.bits .and .u64 x 255 ∧ Go.bits .and .u64 x 255 ≤ 255 := by
  obtain ⟨n, rfl⟩ := exists_nat_of_nonneg h0
  have e : Go.bits .and .u64 (n : Int) ((255 : Nat) : Int) = ((n &&& 255 : Nat) : Int) := u64_and_nat n 255 (by omega) (by omega)
  have h2 : n &&& 255 ≤ 255 := Nat.and_le_right
  have e' : Go.bits .and .u64 (n : Int) 255 = ((n &&& 255 : Nat) : Int) := e
  rw [e']; omega
theorem rd_mem_or (l : List Int) (i : Int) (h0 : 0 ≤ i) (h : i < l.length) : rd l i ∈ l := by
  obtain ⟨n, rfl⟩ := exists_nat_of_nonneg h0
  rw [rd_nat l n (by omega)]; exact List.getElem_mem _

theorem cur_next (l : List Int) (a s : Int) (hl : bytesOk l) (ha : 0 ≤ a ∧ a ≤ 4611686018427387904) :
    ∃ b s', spec_l1Cur_next.f l a s = some (b, a + 1, s') ∧ 0 ≤ b ∧ b ≤ 255 := by
  have hmask : ∀ y : Int, 0 ≤ wrap64 (Go.bits .and .u64 ((IntKind.u64.wrap y) / 1099511627776) 255) ∧ wrap64 (Go.bits .and .u64 ((IntKind.u64.wrap y) / 1099511627776) 255) ≤ 255 := fun y => by
    have h1 := u64_range y
    have h2 := and_255 ((IntKind.u64.wrap y) / 1099511627776) (by omega) (by omega)
    rw [w64 (by omega) (by omega)]; exact h2
  unfold spec_l1Cur_next.f
  rw [w64 (x := a + 1) (by omega) (by omega)]
  by_cases h1 : a < (l.length : Int)
  · have hb := hl _ (rd_mem_or l a ha.1 h1)
    rw [if_pos h1, if_pos ha.1]
    by_cases h2 : a + 1 ≤ (l.length : Int)
    · rw [if_pos h2]; exact ⟨_, _, rfl, by rw [w64 (by omega) (by omega)]; exact hb⟩
    · rw [if_neg h2]; exact ⟨_, _, rfl, hmask _⟩
  · rw [if_neg h1]
    by_cases h2 : a + 1 ≤ (l.length : Int)
    · rw [if_pos h2]; exact ⟨_, _, rfl, by omega⟩
    · rw [if_neg h2]; exact ⟨_, _, rfl, hmask _⟩

theorem cur_pick (l : List Int) (a s n : Int) (hl : bytesOk l) (ha : 0 ≤ a ∧ a ≤ 4611686018427387900) :
    ∃ r a' s', spec_l1Cur_pick.f l a s n = some (r, a', s') ∧ 0 ≤ r ∧ (r < n ∨ n ≤ 1 ∧ r = 0) ∧ a ≤ a' ∧ a' ≤ a + 2 := by
  unfold spec_l1Cur_pick.f
  by_cases h : n ≤ 1
  · rw [if_pos h]; exact ⟨0, a, s, rfl, by omega, .inr ⟨h, rfl⟩, by omega, by omega⟩
  · rw [if_neg h]
    obtain ⟨b, s1, e1, hb⟩ := cur_next l a s hl (by omega)
    rw [e1]; simp only [Option.bind_some]
    by_cases h2 : n > 200
    · rw [if_pos h2]
      obtain ⟨c, s2, e2, hc⟩ := cur_next l (a + 1) s1 hl (by omega)
      rw [e2]; simp only [Option.bind_some]; rw [if_neg (by omega), w64 (x := b * 256) (by omega) (by omega), w64 (by omega) (by omega)]
      exact ⟨_, _, _, rfl, Int.tmod_nonneg _ (by omega), .inl (Int.tmod_lt_of_pos _ (by omega)), by omega, by omega⟩
    · rw [if_neg h2, if_neg (by omega)]
      exact ⟨_, _, _, rfl, Int.tmod_nonneg _ (by omega), .inl (Int.tmod_lt_of_pos _ (by omega)), by omega, by omega⟩

theorem cur_one (l : List Int) (a s n : Int) (hl : bytesOk l) (ha : 0 ≤ a ∧ a ≤ 4611686018427387900) :
    ∃ r a' s', spec_l1Cur_one.f l a s n = some (r, a', s') ∧ a ≤ a' ∧ a' ≤ a + 2 := by
  unfold spec_l1Cur_one.f
  obtain ⟨r, a', s', e, h0, h1, h2, h3⟩ := cur_pick l a s n hl ha
  rw [e]; exact ⟨_, _, _, rfl, h2, h3⟩

theorem cur_among (l : List Int) (a s : Int) (l1 : List Int) (hl : bytesOk l) (ha : 0 ≤ a ∧ a ≤ 4611686018427387900) (h1 : 0 < l1.length) :
    ∃ r a' s', spec_l1Cur_among.f l a s l1 = some (r, a', s') ∧ r ∈ l1 ∧ a ≤ a' ∧ a' ≤ a + 2 := by
  unfold spec_l1Cur_among.f
  obtain ⟨r, a', s', e, h2, h3, h4, h5⟩ := cur_pick l a s (l1.length : Int) hl ha
  have h6 : r < (l1.length : Int) := by omega
  rw [e]; simp only [Option.bind_some]; rw [if_pos h2, if_pos h6]
  exact ⟨_, _, _, rfl, rd_mem_or l1 r h2 h6, h4, h5⟩

theorem spec_l1In_eq (n lo hi : Int) : spec_l1In.f n lo hi = some (decide (lo ≤ n) && decide (n ≤ hi)) := by
  unfold spec_l1In.f
  by_cases h : n ≥ lo
  · rw [if_pos h, decide_eq_true (show lo ≤ n from h)]; simp
  · rw [if_neg h, decide_eq_false (show ¬ lo ≤ n from h)]; simp

theorem impl_within_eq (n lo hi : Int) : impl_within.f n lo hi = some (decide (lo ≤ n) && decide (n ≤ hi)) := by
  unfold impl_within.f
  by_cases h : n ≥ lo
  · rw [if_pos h, decide_eq_true (show lo ≤ n from h)]; simp
  · rw [if_neg h, decide_eq_false (show ¬ lo ≤ n from h)]; simp

theorem spec_l1All_ev (l : List Int) (lo hi : Int) (hl : l.length < 4611686018427387904) : Ev (fun k => spec_l1All.f k l lo hi) (allIn l lo hi) := by
  unfold spec_l1All.f
  refine ev_up l.length (fun k i => spec_l1All.l0 k lo hi l (l.length : Int) (i : Int)) _ (fun i => allIn (l.take i) lo hi = true) (by simp [allIn]) ?_ ?_
  · intro hI
    refine Ev.step0 (Ev.of_eq fun _ => rfl) fun k => ?_
    simp only [spec_l1All.l0]; rw [if_neg (by omega)]
    rw [List.take_length] at hI; rw [hI]
  · intro i hi' hI hn
    cases hb : (decide (lo ≤ l[i]) && decide (l[i] ≤ hi)) with
    | true =>
      refine Ev.step0 (hn (all_take_succ l _ i hi' hI hb)) fun k => ?_
      simp only [spec_l1All.l0]; rw [if_pos (lt_len hi'), if_pos (by omega), if_pos (lt_len hi'), rd_nat l i hi', spec_l1In_eq, hb]
      simp only [Option.bind_some, if_true]; rw [w64 (by omega) (by omega)]; rfl
    | false =>
      refine Ev.step0 (Ev.of_eq fun _ => rfl) fun k => ?_
      simp only [spec_l1All.l0]; rw [if_pos (lt_len hi'), if_pos (by omega), if_pos (lt_len hi'), rd_nat l i hi', spec_l1In_eq, hb]
      simp only [Option.bind_some]; rw [if_neg (by decide)]
      rw [show allIn l lo hi = false from all_take_false l _ i hi' hb]

theorem impl_allWithin_ev (l : List Int) (lo hi : Int) (hl : l.length < 4611686018427387904) : Ev (fun k => impl_allWithin.f k l lo hi) (allIn l lo hi) := by
  unfold impl_allWithin.f sl0_ContainsFunc.f sl2_IndexFunc.f
  have key : ∃ j : Int, decide (j ≥ 0) = !(allIn l lo hi) ∧ Ev (fun k => sl2_IndexFunc.l0 k l (l.length : Int) 0 lo hi) j := by
    have hc : ∀ x : Int, impl_allWithin_1.f x lo hi = some (!(decide (lo ≤ x) && decide (x ≤ hi))) := fun x => by
      unfold impl_allWithin_1.f; rw [impl_within_eq]; rfl
    cases ha : allIn l lo hi with
    | true =>
      refine ⟨-1, by decide, ?_⟩
      refine ev_up l.length (fun k i => sl2_IndexFunc.l0 k l (l.length : Int) (i : Int) lo hi) _ (fun _ => True) trivial ?_ ?_
      · intro _
        refine Ev.step0 (Ev.of_eq fun _ => rfl) fun k => ?_
        simp only [sl2_IndexFunc.l0]; rw [if_neg (by omega)]
      · intro i hi' _ hn
        have hb := (allIn_iff l lo hi).mp ha l[i] (List.getElem_mem hi')
        refine Ev.step0 (hn trivial) fun k => ?_
        simp only [sl2_IndexFunc.l0]; rw [if_pos (lt_len hi'), if_pos (by omega), if_pos (lt_len hi'), rd_nat l i hi', hc, decide_eq_true hb.1, decide_eq_true hb.2]
        simp only [Option.bind_some]; rw [if_neg (by decide), w64 (by omega) (by omega)]; rfl
    | false =>
      have : ∃ i : Nat, i < l.length ∧ Ev (fun k => sl2_IndexFunc.l0 k l (l.length : Int) 0 lo hi) (i : Int) := by
        obtain ⟨i, hi', hp, hlt⟩ : ∃ i : Nat, ∃ h : i < l.length, (decide (lo ≤ l[i]) && decide (l[i] ≤ hi)) = false ∧ ∀ j, ∀ hj : j < i, (decide (lo ≤ l[j]) && decide (l[j] ≤ hi)) = true := by
          have h1 : ∃ i : Nat, ∃ h : i < l.length, (decide (lo ≤ l[i]) && decide (l[i] ≤ hi)) = false := by
            unfold allIn at ha
            rw [List.all_eq_false] at ha
            obtain ⟨x, hx, hp⟩ := ha
            obtain ⟨i, hi', rfl⟩ := List.getElem_of_mem hx
            exact ⟨i, hi', by simpa using hp⟩
          obtain ⟨m, hm, hmin⟩ := exists_least h1
          obtain ⟨hm1, hm2⟩ := hm
          refine ⟨m, hm1, hm2, fun j hj => ?_⟩
          cases hq : (decide (lo ≤ l[j]) && decide (l[j] ≤ hi)) with
          | true => rfl
          | false => have := hmin j ⟨by omega, hq⟩; omega
        refine ⟨i, hi', ?_⟩
        refine ev_up i (fun k i => sl2_IndexFunc.l0 k l (l.length : Int) (i : Int) lo hi) _ (fun _ => True) trivial ?_ ?_
        · intro _
          refine Ev.step0 (Ev.of_eq fun _ => rfl) fun k => ?_
          simp only [sl2_IndexFunc.l0]; rw [if_pos (lt_len hi'), if_pos (by omega), if_pos (lt_len hi'), rd_nat l i hi', hc, hp]
          simp
        · intro j hj _ hn
          have hj' : j < l.length := by omega
          refine Ev.step0 (hn trivial) fun k => ?_
          simp only [sl2_IndexFunc.l0]; rw [if_pos (lt_len hj'), if_pos (by omega), if_pos (lt_len hj'), rd_nat l j hj', hc, hlt j hj]
          simp only [Option.bind_some]; rw [if_neg (by decide), w64 (by omega) (by omega)]; rfl
      obtain ⟨i, _, hi2⟩ := this
      exact ⟨i, by simp, hi2⟩
  obtain ⟨j, hj, hev⟩ := key
  refine Ev.to (Ev.bind (Ev.bind hev (Ev.now _)) (Ev.now _)) ?_
  rw [hj]; simp

def lowNum (a b : Int) : Int := if b < 0 then Int.tdiv (-a) (Int.gcd a b) else Int.tdiv a (Int.gcd a b)
def lowDen (a b : Int) : Int := if b < 0 then Int.tdiv (-b) (Int.gcd a b) else Int.tdiv b (Int.gcd a b)
def goodFrac (a b : Int) : Bool := decide (-1000000000 ≤ a) && decide (a ≤ 1000000000) && (decide (1 ≤ b) && decide (b ≤ 1000000000)) && decide (Int.gcd a b = 1)

theorem mn_min (a b : Int) : mn a b = min a b := by unfold mn; split <;> omega
theorem w64n {i n : Nat} (h : i < n) (hn : n ≤ 4611686018427387904) : wrap64 ((i : Int) + 1) = ((i + 1 : Nat) : Int) := by rw [w64 (by omega) (by omega)]; rfl
theorem ev_indexFunc {α : Type} (l : List α) (rdx : Int → α) (hr : ∀ (i : Nat) (h : i < l.length), rdx (i : Int) = l[i]) (c : Nat → α → Option Bool) (p : α → Bool)
    (hc : ∀ x ∈ l, Ev (fun k => c k x) (p x)) (g : Nat → Int → Option Int)
    (hg : ∀ k i, g (k + 1) i = if i < (l.length : Int) then (if 0 ≤ i then (if i < (l.length : Int) then ((c k (rdx i)).bind fun t => if t = true then some i else g k (wrap64 (i + 1))) else none) else none) else some (-1))
    (hl : l.length ≤ 4611686018427387904) : ∃ j : Int, decide (j ≥ 0) = l.any p ∧ Ev (fun k => g k 0) j := by
  have gen : ∀ (d i : Nat), i + d = l.length → ∃ j : Int, decide (j ≥ 0) = (l.drop i).any p ∧ Ev (fun k => g k (i : Int)) j := by
    intro d
    induction d with
    | zero =>
      intro i hi
      refine ⟨-1, by rw [List.drop_of_length_le (by omega)]; rfl, Ev.step0 (Ev.of_eq fun _ => rfl) fun k => ?_⟩
      rw [hg, if_neg (by omega)]
    | succ d ih =>
      intro i hi
      have hi' : i < l.length := by omega
      have hd : (l.drop i).any p = (p l[i] || (l.drop (i + 1)).any p) := by rw [List.drop_eq_getElem_cons hi', List.any_cons]
      have hcx := hc l[i] (List.getElem_mem hi')
      cases hp : p l[i] with
      | true =>
        refine ⟨i, by rw [hd, hp]; simp, Ev.step (fun k => hg k _) (Ev.pos (by omega) (Ev.pos (by omega) (Ev.pos (by omega) ?_)))⟩
        rw [hr i hi']
        exact Ev.bind hcx (Ev.pos hp (Ev.now _))
      | false =>
        obtain ⟨j, hj, hev⟩ := ih (i + 1) (by omega)
        refine ⟨j, by rw [hd, hp, hj]; rfl, Ev.step (fun k => hg k _) (Ev.pos (by omega) (Ev.pos (by omega) (Ev.pos (by omega) ?_)))⟩
        rw [hr i hi', w64 (by omega) (by omega)]
        exact Ev.bind hcx (Ev.neg (by rw [hp]; simp) hev)
  have := gen l.length 0 (by omega)
  simpa using this
theorem any_not_all {α : Type} (l : List α) (p : α → Bool) : l.any (fun x => !p x) = !(l.all p) := by
  induction l with
  | nil => rfl
  | cons a l ih => simp [ih]
theorem spec_l1Has_ev (l : List Int) (a : Int) (hl : l.length ≤ 4611686018427387904) : Ev (fun k => spec_l1Has.f k l a) (decide (a ∈ l)) := by
  unfold spec_l1Has.f
  have gen : ∀ (d i : Nat), i + d = l.length → Ev (fun k => spec_l1Has.l0 k a l (l.length : Int) (i : Int)) (decide (a ∈ l.drop i)) := by
    intro d
    induction d with
    | zero =>
      intro i hi
      rw [List.drop_of_length_le (by omega)]
      refine Ev.succ ?_
      simp only [spec_l1Has.l0]; exact Ev.neg (by omega) (Ev.now _)
    | succ d ih =>
      intro i hi
      have hi' : i < l.length := by omega
      rw [List.drop_eq_getElem_cons hi']
      refine Ev.succ ?_
      simp only [spec_l1Has.l0]
      refine Ev.pos (by omega) (Ev.pos (by omega) (Ev.pos (by omega) ?_))
      rw [rd_nat l i hi', w64 (by omega) (by omega)]
      refine Ev.ite (fun h => ?_) (fun h => ?_)
      · rw [h]; simpa using Ev.now true
      · have := ih (i + 1) (by omega)
        have e : decide (a ∈ l[i] :: l.drop (i + 1)) = decide (a ∈ l.drop (i + 1)) := by
          rw [decide_eq_decide, List.mem_cons]; constructor
          · rintro (h2 | h2)
            · exact absurd h2.symm h
            · exact h2
          · exact .inr
        rw [e]; exact this
  simpa using gen l.length 0 (by omega)

def wayOf (a b c d : Int) : Int := if a = c then ((b - d).natAbs : Int) else 3 * ((a - c).natAbs : Int) + (if 40 - (b + d) < b + d then 40 - (b + d) else b + d)
def spotOk (a b : Int) : Bool := (decide (0 ≤ a) && decide (a ≤ 9)) && (decide (0 ≤ b) && decide (b ≤ 20))

theorem laws_sameInts_ev (a b : List Int) (hl : a.length ≤ 4611686018427387904) : Ev (fun k => laws_sameInts.f k a b) (decide (a = b)) := by
  unfold laws_sameInts.f
  refine Ev.ite (fun h => ?_) (fun h => ?_)
  · have hlen : a.length = b.length := by omega
    have gen : ∀ (d i : Nat), i + d = a.length → Ev (fun k => laws_sameInts.l0 k a b (a.length : Int) (i : Int)) (decide (a.drop i = b.drop i)) := by
      intro d
      induction d with
      | zero =>
        intro i hi
        rw [List.drop_of_length_le (by omega), List.drop_of_length_le (by omega)]
        refine Ev.succ ?_
        simp only [laws_sameInts.l0]; exact Ev.neg (by omega) (by simpa using Ev.now true)
      | succ d ih =>
        intro i hi
        have hi' : i < a.length := by omega
        have hi2 : i < b.length := by omega
        rw [List.drop_eq_getElem_cons hi', List.drop_eq_getElem_cons hi2]
        refine Ev.succ ?_
        simp only [laws_sameInts.l0]
        refine Ev.pos (by omega) (Ev.pos (by omega) (Ev.pos (by omega) (Ev.pos (by omega) ?_)))
        rw [rd_nat a i hi', rd_nat b i hi2, w64n hi' (by omega)]
        refine Ev.ite (fun h => ?_) (fun h => ?_)
        · have e : decide (a[i] :: a.drop (i + 1) = b[i] :: b.drop (i + 1)) = decide (a.drop (i + 1) = b.drop (i + 1)) := by
            rw [decide_eq_decide, h]; exact ⟨fun h => (List.cons.inj h).2, fun h => by rw [h]⟩
          rw [e]; exact ih (i + 1) (by omega)
        · have e : decide (a[i] :: a.drop (i + 1) = b[i] :: b.drop (i + 1)) = false := by
            rw [decide_eq_false_iff_not]; intro h2; injection h2 with h3; exact h h3
          rw [e]; exact Ev.now _
    simpa using gen a.length 0 (by omega)
  · have e : decide (a = b) = false := by rw [decide_eq_false_iff_not]; rintro rfl; exact h rfl
    rw [e]; exact Ev.now _
theorem laws_same_ev (a : List Int) (hl : a.length ≤ 4611686018427387904) : Ev (fun k => laws_sameInts.f k a a) true := Ev.to (laws_sameInts_ev a a hl) (by simp)

theorem slices_Reverse_go (m : Nat) : ∀ (A M B : List Int), M.length ≤ m → (A ++ M ++ B).length ≤ 1048576 → Ev (fun k => slices_Reverse_int_int.l0 k (A ++ M ++ B) (A.length : Int) ((A.length : Int) + (M.length : Int) - 1)) (A ++ M.reverse ++ B) := by
  induction m using Nat.strongRecOn with
  | _ m ih =>
    intro A M B hm hl
    rcases Nat.lt_or_ge M.length 2 with h2 | h2
    · refine Ev.succ ?_
      simp only [slices_Reverse_int_int.l0]
      refine Ev.neg (by omega) (Ev.to (Ev.now _) ?_)
      match M, h2 with
      | [], _ => rfl
      | [x], _ => rfl
    · obtain ⟨x, M1, rfl⟩ : ∃ x M1, M = x :: M1 := by cases M with | nil => simp at h2 | cons x M1 => exact ⟨x, M1, rfl⟩
      obtain ⟨M2, y, rfl⟩ : ∃ M2 y, M1 = M2 ++ [y] := ⟨M1.dropLast, M1.getLast (by intro h; simp [h] at h2), (List.dropLast_concat_getLast _).symm⟩
      simp only [List.length_append, List.length_cons, List.length_nil] at h2 hm hl
      have hi : A.length < (A ++ x :: (M2 ++ [y]) ++ B).length := by simp <;> omega
      have hj : A.length + 1 + M2.length < (A ++ x :: (M2 ++ [y]) ++ B).length := by simp <;> omega
      have ej : (A.length : Int) + ((x :: (M2 ++ [y])).length : Int) - 1 = ((A.length + 1 + M2.length : Nat) : Int) := by simp <;> omega
      have rx : (A ++ x :: (M2 ++ [y]) ++ B)[A.length] = x := by simp
      have ry : (A ++ x :: (M2 ++ [y]) ++ B)[A.length + 1 + M2.length] = y := by
        rw [List.getElem_append_left (by simp <;> omega), List.getElem_append_right (by omega)]
        rw [List.getElem_cons, dif_neg (by omega), List.getElem_append_right (by omega)]
        simp
      have sw : ((A ++ x :: (M2 ++ [y]) ++ B).set A.length y).set (A.length + 1 + M2.length) x = (A ++ [y]) ++ M2 ++ ([x] ++ B) := by
        rw [List.append_assoc, List.set_append_right _ _ (Nat.le_refl _), Nat.sub_self, List.cons_append, List.set_cons_zero, List.set_append_right _ _ (by omega), show A.length + 1 + M2.length - A.length = M2.length + 1 by omega, List.set_cons_succ, List.append_assoc, List.set_append_right _ _ (Nat.le_refl _), Nat.sub_self]
        simp
      refine Ev.succ ?_
      rw [ej]
      simp only [slices_Reverse_int_int.l0]
      refine Ev.pos (by omega) (Ev.pos (by omega) (Ev.pos (lt_len hj) (Ev.pos (by omega) (Ev.pos (lt_len hi) ?_))))
      rw [rd_nat _ _ hi, rd_nat _ _ hj, rx, ry, toNat_nat, toNat_nat, sw, w64 (by omega) (by omega), w64 (by omega) (by omega)]
      have := ih M2.length (by omega) (A ++ [y]) M2 ([x] ++ B) (Nat.le_refl _) (by simp <;> omega)
      have e1 : ((A ++ [y]).length : Int) = (A.length : Int) + 1 := by simp
      have e2 : ((A ++ [y]).length : Int) + (M2.length : Int) - 1 = ((A.length + 1 + M2.length : Nat) : Int) - 1 := by simp <;> omega
      rw [e2, e1] at this
      refine Ev.to this ?_
      simp
theorem slices_Reverse_ev (l : List Int) (h : l.length ≤ 1048576) : Ev (fun k => slices_Reverse_int_int.f k l) l.reverse := by
  unfold slices_Reverse_int_int.f
  rw [w64 (by omega) (by omega)]
  have := slices_Reverse_go l.length [] l [] (Nat.le_refl _) (by simpa using h)
  simpa using this

def gainN (g : List Int) (c : Nat) : Int := if c = 0 then 0 else rd g ((c - 1 : Nat) : Int)
def okO (g : List Int) : Bool := decide (g.length ≤ 6) && allIn g (-1000) 1000
def bestTo (row g : List Int) (p : Nat) : Nat → Int
  | 0 => rd row (p : Int)
  | c + 1 => max (bestTo row g p c) (rd row ((p - (c + 1) : Nat) : Int) + gainN g (c + 1))
def rowNext (row g : List Int) (P : Nat) : List Int := (List.range (P + 1)).map fun p => bestTo row g p (min p g.length)
def rowAt (gs : List (List Int)) (P : Nat) : Nat → List Int
  | 0 => List.replicate (P + 1) 0
  | i + 1 => rowNext (rowAt gs P i) (gs.getD i []) P
def sumN (f : Nat → Int) : Nat → Int
  | 0 => 0
  | n + 1 => sumN f n + f n
theorem sumN_congr {f g : Nat → Int} {n : Nat} (h : ∀ i, i < n → f i = g i) : sumN f n = sumN g n := by
  induction n with
  | zero => rfl
  | succ n ih => simp only [sumN]; rw [ih fun i hi => h i (by omega), h n (by omega)]
theorem sumN_le {f g : Nat → Int} {n : Nat} (h : ∀ i, i < n → f i ≤ g i) : sumN f n ≤ sumN g n := by
  induction n with
  | zero => exact Int.le_refl _
  | succ n ih => simp only [sumN]; have := ih fun i hi => h i (by omega); have := h n (by omega); omega
structure Counts (gs : List (List Int)) (n : Nat) (d : Nat → Nat) : Prop where
  le : ∀ i, i < n → d i ≤ (gs.getD i []).length
def valN (gs : List (List Int)) (d : Nat → Nat) (n : Nat) : Int := sumN (fun i => gainN (gs.getD i []) (d i)) n
def plN (d : Nat → Nat) : Nat → Nat
  | 0 => 0
  | n + 1 => plN d n + d n

theorem plN_congr {d e : Nat → Nat} {n : Nat} (h : ∀ i, i < n → d i = e i) : plN d n = plN e n := by
  induction n with
  | zero => rfl
  | succ n ih => simp only [plN]; rw [ih fun i hi => h i (by omega), h n (by omega)]
theorem plN_bump (d : Nat → Nat) {n j : Nat} (h : j < n) : plN (fun i => if i = j then d i + 1 else d i) n = plN d n + 1 := by
  induction n with
  | zero => omega
  | succ n ih =>
    simp only [plN]
    by_cases e : j = n
    · subst e
      rw [plN_congr (e := d) (fun i hi => if_neg (by omega)), if_pos rfl]; omega
    · rw [ih (by omega), if_neg (by omega)]; omega
theorem rd_setc (o : List Int) (b x : Nat) (v : Int) (h : b < o.length) : rd (o.set b v) (x : Int) = if x = b then v else rd o (x : Int) := by
  simp only [rd, Int.toNat_natCast, List.getD_eq_getElem?_getD, List.getElem?_set]
  by_cases hx : b = x
  · subst hx; simp [h]
  · rw [if_neg hx, if_neg (fun e => hx e.symm)]

def markH (rm : Nat → Nat → Int) (a : Nat) (s : List Int × List Nat) (b : Nat) : List Int × List Nat := if rd s.1 (b : Int) < 0 ∧ 0 < rm a b then (s.1.set b (a : Int), s.2 ++ [b]) else s
def scanH (rm : Nat → Nat → Int) (a : Nat) (s : List Int × List Nat) : Nat → List Int × List Nat
  | 0 => s
  | b + 1 => markH rm a (scanH rm a s b) b
def comeH (rm : Nat → Nat → Int) (n : Nat) : Nat → List Int → List Nat → List Int
  | 0, fr, _ => fr
  | _ + 1, fr, [] => fr
  | k + 1, fr, a :: q => comeH rm n k (scanH rm a (fr, a :: q) n).1 ((scanH rm a (fr, a :: q) n).2.drop 1)
def unseen (fr : List Int) (n : Nat) : Nat := plN (fun b => if rd fr (b : Int) < 0 then 1 else 0) n
structure Came (rm : Nat → Nat → Int) (n : Nat) (fr : List Int) (q : List Nat) (rk : Nat → Nat) : Prop where
  len : fr.length = n
  zero : rd fr 0 = 0
  lo : ∀ b, b < n → -1 ≤ rd fr (b : Int)
  q_lt : ∀ x ∈ q, x < n ∧ 0 ≤ rd fr (x : Int)
  par : ∀ b, b < n → b ≠ 0 → 0 ≤ rd fr (b : Int) → ∃ a : Nat, a < n ∧ rd fr (b : Int) = (a : Int) ∧ 0 ≤ rd fr (a : Int) ∧ 0 < rm a b ∧ rk a < rk b
  rkn : ∀ b, b < n → 0 ≤ rd fr (b : Int) → rk b + unseen fr n < n
def Full (rm : Nat → Nat → Int) (n : Nat) (fr : List Int) (q : List Nat) : Prop := ∀ a, a < n → 0 ≤ rd fr (a : Int) → a ∉ q → ∀ b, b < n → 0 < rm a b → 0 ≤ rd fr (b : Int)
theorem unseen_set (fr : List Int) (b n : Nat) (hb : b < n) (hl : fr.length = n) (h : rd fr (b : Int) < 0) (v : Int) (hv : 0 ≤ v) : unseen (fr.set b v) n + 1 = unseen fr n := by
  unfold unseen
  have key := plN_bump (fun x => if rd (fr.set b v) (x : Int) < 0 then 1 else 0) hb
  rw [← key]
  refine plN_congr fun i hi => ?_
  rw [rd_setc fr b i v (by omega)]
  by_cases e : i = b
  · subst e; rw [if_pos rfl, if_pos rfl, if_neg (by omega), if_pos h]
  · rw [if_neg e, if_neg e]
theorem mark_ok {rm : Nat → Nat → Int} {n a b : Nat} {fr : List Int} {q : List Nat} {rk : Nat → Nat} (h : Came rm n fr q rk) (hf : Full rm n fr q) (ha : a ∈ q) (hb : b < n) :
    ∃ rk', Came rm n (markH rm a (fr, q) b).1 (markH rm a (fr, q) b).2 rk' ∧ Full rm n (markH rm a (fr, q) b).1 (markH rm a (fr, q) b).2 ∧ (∃ e, (markH rm a (fr, q) b).2 = q ++ e) ∧
      (∀ x : Nat, 0 ≤ rd fr (x : Int) → rd (markH rm a (fr, q) b).1 (x : Int) = rd fr (x : Int)) ∧ (0 < rm a b → 0 ≤ rd (markH rm a (fr, q) b).1 (b : Int)) ∧
      unseen (markH rm a (fr, q) b).1 n + (markH rm a (fr, q) b).2.length = unseen fr n + q.length := by
  obtain ⟨a_lt, a_in⟩ := h.q_lt a ha
  unfold markH
  dsimp only
  by_cases c : rd fr (b : Int) < 0 ∧ 0 < rm a b
  · rw [if_pos c]
    dsimp only
    have hbl : b < fr.length := by rw [h.len]; exact hb
    have hb0 : b ≠ 0 := fun e => by have h2 := h.zero; subst e; have := c.1; rw [show ((0 : Nat) : Int) = 0 from rfl, h2] at this; omega
    have hr : ∀ x : Nat, rd (fr.set b (a : Int)) (x : Int) = if x = b then (a : Int) else rd fr (x : Int) := fun x => rd_setc fr b x _ hbl
    have hold : ∀ x : Nat, 0 ≤ rd fr (x : Int) → rd (fr.set b (a : Int)) (x : Int) = rd fr (x : Int) := fun x hx => by
      rw [hr x, if_neg (fun e => by subst e; omega)]
    have hin : ∀ x : Nat, 0 ≤ rd fr (x : Int) → 0 ≤ rd (fr.set b (a : Int)) (x : Int) := fun x hx => by rw [hold x hx]; exact hx
    refine ⟨fun x => if x = b then rk a + 1 else rk x, ⟨by rw [List.length_set]; exact h.len, ?_, fun x hx => ?_, fun x hx => ?_, fun x hx hx0 hxp => ?_, fun x hx hxp => ?_⟩, fun x hx hxp hxq y hy hxy => ?_, ⟨[b], rfl⟩, hold, fun _ => ?_, ?_⟩
    · have := hr 0
      rw [if_neg (Ne.symm hb0)] at this
      rw [show ((0 : Nat) : Int) = 0 from rfl] at this
      rw [this]; exact h.zero
    · rw [hr x]; split
      · omega
      · exact h.lo x hx
    · rcases List.mem_append.mp hx with hx | hx
      · exact ⟨(h.q_lt x hx).1, hin x (h.q_lt x hx).2⟩
      · rw [List.mem_singleton] at hx; subst hx
        exact ⟨hb, by rw [hr x, if_pos rfl]; omega⟩
    · by_cases e : x = b
      · subst e
        refine ⟨a, a_lt, by rw [hr x, if_pos rfl], hin a a_in, c.2, ?_⟩
        rw [if_pos rfl, if_neg (fun e => by subst e; omega)]; omega
      · rw [hr x, if_neg e] at hxp
        obtain ⟨p, h1, h2, h3, h4, h5⟩ := h.par x hx hx0 hxp
        refine ⟨p, h1, by rw [hr x, if_neg e]; exact h2, hin p h3, h4, ?_⟩
        rw [if_neg (fun e => by subst e; omega), if_neg e]; exact h5
    · have h9 := unseen_set fr b n hb h.len c.1 (a : Int) (by omega)
      by_cases e : x = b
      · rw [if_pos e]
        have := h.rkn a a_lt a_in
        omega
      · rw [hr x, if_neg e] at hxp
        rw [if_neg e]
        have := h.rkn x hx hxp
        omega
    · rw [List.mem_append, not_or] at hxq
      have e : x ≠ b := fun e => hxq.2 (by rw [e]; exact List.mem_singleton.mpr rfl)
      rw [hr x, if_neg e] at hxp
      exact hin y (hf x hx hxp hxq.1 y hy hxy)
    · rw [hr b, if_pos rfl]; omega
    · have := unseen_set fr b n hb h.len c.1 (a : Int) (by omega)
      rw [List.length_append, List.length_singleton]; omega
  · rw [if_neg c]
    refine ⟨rk, h, hf, ⟨[], (List.append_nil _).symm⟩, fun _ _ => rfl, fun hp => ?_, rfl⟩
    dsimp only
    by_cases d : rd fr (b : Int) < 0
    · exact absurd ⟨d, hp⟩ c
    · omega
theorem scan_ok {rm : Nat → Nat → Int} {n a : Nat} {fr : List Int} {q : List Nat} {rk : Nat → Nat} (h : Came rm n fr q rk) (hf : Full rm n fr q) (ha : a ∈ q) :
    ∀ m, m ≤ n → ∃ rk', Came rm n (scanH rm a (fr, q) m).1 (scanH rm a (fr, q) m).2 rk' ∧ Full rm n (scanH rm a (fr, q) m).1 (scanH rm a (fr, q) m).2 ∧ (∃ e, (scanH rm a (fr, q) m).2 = q ++ e) ∧
      (∀ x : Nat, 0 ≤ rd fr (x : Int) → rd (scanH rm a (fr, q) m).1 (x : Int) = rd fr (x : Int)) ∧ (∀ b, b < m → 0 < rm a b → 0 ≤ rd (scanH rm a (fr, q) m).1 (b : Int)) ∧
      unseen (scanH rm a (fr, q) m).1 n + (scanH rm a (fr, q) m).2.length = unseen fr n + q.length
  | 0, _ => ⟨rk, h, hf, ⟨[], (List.append_nil _).symm⟩, fun _ _ => rfl, fun b hb => absurd hb (by omega), rfl⟩
  | m + 1, hm => by
    obtain ⟨rk1, h1, h2, ⟨e, h3⟩, h4, h5, h6⟩ := scan_ok h hf ha m (by omega)
    obtain ⟨rk2, g1, g2, ⟨e2, g3⟩, g4, g5, g6⟩ := mark_ok (b := m) h1 h2 (by rw [h3]; exact List.mem_append_left _ ha) (by omega)
    refine ⟨rk2, g1, g2, ⟨e ++ e2, ?_⟩, fun x hx => ?_, fun b hb hr => ?_, ?_⟩
    · show (markH rm a (scanH rm a (fr, q) m) m).2 = _
      rw [g3, h3, List.append_assoc]
    · show rd (markH rm a (scanH rm a (fr, q) m) m).1 (x : Int) = _
      rw [g4 x (by rw [h4 x hx]; exact hx), h4 x hx]
    · by_cases c : b = m
      · subst c; exact g5 hr
      · have := h5 b (by omega) hr
        show 0 ≤ rd (markH rm a (scanH rm a (fr, q) m) m).1 (b : Int)
        rw [g4 b this]; exact this
    · show unseen (markH rm a (scanH rm a (fr, q) m) m).1 n + (markH rm a (scanH rm a (fr, q) m) m).2.length = _
      rw [g6, h6]
theorem come_ok {rm : Nat → Nat → Int} {n : Nat} : ∀ (k : Nat) (fr : List Int) (q : List Nat) (rk : Nat → Nat), Came rm n fr q rk → Full rm n fr q → unseen fr n + q.length < k → ∃ rk', Came rm n (comeH rm n k fr q) [] rk' ∧ Full rm n (comeH rm n k fr q) []
  | 0, _, _, _, _, _, h => absurd h (by omega)
  | k + 1, fr, [], rk, h, hf, _ => ⟨rk, h, hf⟩
  | k + 1, fr, a :: q, rk, h, hf, hk => by
    obtain ⟨rk1, h1, h2, ⟨e, h3⟩, h4, h5, h6⟩ := scan_ok h hf (List.mem_cons_self : a ∈ a :: q) n (Nat.le_refl _)
    simp only [comeH]
    have hd : (scanH rm a (fr, a :: q) n).2 = a :: (q ++ e) := by rw [h3]; rfl
    refine come_ok k _ _ rk1 ⟨h1.len, h1.zero, h1.lo, fun x hx => h1.q_lt x (by rw [hd] at hx ⊢; exact List.mem_cons_of_mem _ hx), h1.par, h1.rkn⟩ (fun x hx hxp hxq y hy hxy => ?_) ?_
    · by_cases c : x = a
      · subst c; exact h5 y hy hxy
      · refine h2 x hx hxp (fun hm => ?_) y hy hxy
        rw [hd] at hm hxq
        rcases List.mem_cons.mp hm with hm | hm
        · exact c hm
        · exact hxq hm
    · rw [hd] at h6 ⊢
      simp only [List.drop_one, List.tail_cons]
      simp only [List.length_cons] at h6 hk
      omega

def jn (E : List (Nat × Nat)) (T : Nat → Bool) : Nat → Nat → Prop
  | 0, u => T u = true
  | n + 1, u => T u = true ∨ ∃ v, ((u, v) ∈ E ∨ (v, u) ∈ E) ∧ jn E T n v
def Jn (E : List (Nat × Nat)) (T : Nat → Bool) (u : Nat) : Prop := ∃ n, jn E T n u
theorem Jn.base {E : List (Nat × Nat)} {T : Nat → Bool} {u : Nat} (h : T u = true) : Jn E T u := ⟨0, h⟩
theorem Jn.step {E : List (Nat × Nat)} {T : Nat → Bool} {u v : Nat} (h : (u, v) ∈ E ∨ (v, u) ∈ E) (k : Jn E T v) : Jn E T u := by
  obtain ⟨n, hn⟩ := k; exact ⟨n + 1, .inr ⟨v, h, hn⟩⟩
theorem Jn.rule {E : List (Nat × Nat)} {T : Nat → Bool} {P : Nat → Prop} (hb : ∀ u, T u = true → P u)
    (hs : ∀ u v, ((u, v) ∈ E ∨ (v, u) ∈ E) → Jn E T v → P v → P u) {u : Nat} (h : Jn E T u) : P u := by
  obtain ⟨n, hn⟩ := h
  induction n generalizing u with
  | zero => exact hb u hn
  | succ n ih =>
    rcases hn with h | ⟨v, h, hv⟩
    · exact hb u h
    · exact hs u v h ⟨n, hv⟩ (ih hv)
theorem Jn.trans {E E' : List (Nat × Nat)} {T T' : Nat → Bool} {u : Nat} (h : Jn E T u) (k : ∀ x, T x = true → Jn E' T' x) (hE : ∀ e ∈ E, e ∈ E') : Jn E' T' u :=
  h.rule k fun _ _ he _ p => Jn.step (he.imp (hE _) (hE _)) p
theorem Jn.cross {E : List (Nat × Nat)} {J : Nat → Bool} {v : Nat} (h : Jn E J v) : J v = false →
    ∃ e ∈ E, ∃ x s, (e = (x, s) ∨ e = (s, x)) ∧ J x = false ∧ J s = true ∧ Jn (E.erase e) (fun u => decide (u = v)) x := by
  refine h.rule (P := fun v => J v = false → ∃ e ∈ E, ∃ x s, (e = (x, s) ∨ e = (s, x)) ∧ J x = false ∧ J s = true ∧ Jn (E.erase e) (fun u => decide (u = v)) x) (fun u hu hv => absurd hu (by simp [hv])) ?_
  intro u w hf hw ih hu
  cases hJ : J w with
  | true =>
    have hx : Jn (E.erase ((u, w) : Nat × Nat)) (fun y => decide (y = u)) u := Jn.base (by simp)
    have hx' : Jn (E.erase ((w, u) : Nat × Nat)) (fun y => decide (y = u)) u := Jn.base (by simp)
    rcases hf with hf | hf
    · exact ⟨_, hf, u, w, .inl rfl, hu, hJ, hx⟩
    · exact ⟨_, hf, u, w, .inr rfl, hu, hJ, hx'⟩
  | false =>
    obtain ⟨e, he, x, s, hxs, hx, hs, hj⟩ := ih hJ
    refine ⟨e, he, x, s, hxs, hx, hs, hj.trans (fun y hy => ?_) (fun _ h => h)⟩
    have hyw : y = w := by simpa using hy
    subst hyw
    have hne : ∀ f : Nat × Nat, f = (u, y) ∨ f = (y, u) → f ≠ e := by
      rintro f hf1 rfl
      rcases hf1 with h1 | h1 <;> rcases hxs with h2 | h2 <;> rw [h1] at h2 <;> injection h2 with h3 h4 <;> subst h3 <;> subst h4 <;> simp_all
    refine Jn.step (v := u) ?_ (Jn.base (by simp))
    rcases hf with hf | hf
    · exact .inr ((List.mem_erase_of_ne (hne _ (.inl rfl))).mpr hf)
    · exact .inl ((List.mem_erase_of_ne (hne _ (.inr rfl))).mpr hf)
theorem Jn.move {E : List (Nat × Nat)} {J : Nat → Bool} {v x s : Nat} {e : Nat × Nat} (hxs : e = (x, s) ∨ e = (s, x)) (hs : J s = true)
    (hj : Jn (E.erase e) (fun u => decide (u = v)) x) {u : Nat} (h : Jn E J u) : Jn (E.erase e) (fun y => J y || decide (y = v)) u := by
  have hx : Jn (E.erase e) (fun y => J y || decide (y = v)) x := hj.trans (fun y hy => Jn.base (by simp at hy; simp [hy])) (fun _ h => h)
  have hss : Jn (E.erase e) (fun y => J y || decide (y = v)) s := Jn.base (by simp [hs])
  refine h.rule (P := fun u => Jn (E.erase e) (fun y => J y || decide (y = v)) u) (fun u hu => Jn.base (by simp [hu])) ?_
  intro u w hf _ ih
  by_cases h1 : (u, w) = e
  · rcases hxs with h2 | h2 <;> rw [h2] at h1 <;> injection h1 with h3 h4
    · rw [h3]; exact hx
    · rw [h3]; exact hss
  · by_cases h2 : (w, u) = e
    · rcases hxs with h3 | h3 <;> rw [h3] at h2 <;> injection h2 with h4 h5
      · rw [h5]; exact hss
      · rw [h5]; exact hx
    · refine Jn.step (v := w) ?_ ih
      rcases hf with hf | hf
      · exact .inl ((List.mem_erase_of_ne h1).mpr hf)
      · exact .inr ((List.mem_erase_of_ne h2).mpr hf)
def sumW (w : Nat → Nat → Int) (E : List (Nat × Nat)) : Int := (E.map fun e => w e.1 e.2).sum
def nearUp (w : Nat → Nat → Int) (J : Nat → Bool) (i : Nat) : Nat → Option Nat
  | 0 => none
  | k + 1 => match nearUp w J i k with
    | none => if J k = true then some k else none
    | some m => if J k = true ∧ w i k < w i m then some k else some m
def pickUp (w : Nat → Nat → Int) (J : Nat → Bool) (n : Nat) : Nat → Option (Nat × Nat)
  | 0 => none
  | i + 1 => match pickUp w J n i with
    | none => if J i = true then none else (nearUp w J i n).map fun m => (i, m)
    | some p => if J i = true then some p else match nearUp w J i n with
      | none => some p
      | some m => if w i m < w p.1 p.2 then some (i, m) else some p

def updP (w : Nat → Nat → Int) (J : Nat → Bool) (i : Nat) (p : Option (Nat × Nat)) (m : Option Nat) : Option (Nat × Nat) :=
  if J i = true then p else match m with
    | none => p
    | some m => match p with
      | none => some (i, m)
      | some q => if w i m < w q.1 q.2 then some (i, m) else some q
def jd (J : List Bool) (m : Nat) : Bool := rdOf false J (m : Int)
def primSt (w : Nat → Nat → Int) (n : Nat) : Nat → List Int × Int × List Bool
  | 0 => (List.replicate n (-1), 0, (List.replicate n false).set 0 true)
  | t + 1 => match pickUp w (jd (primSt w n t).2.2) n n with
    | none => primSt w n t
    | some q => ((primSt w n t).1.set q.1 (q.2 : Int), (primSt w n t).2.1 + w q.1 q.2, (primSt w n t).2.2.set q.1 true)
def sumTo (f : Nat → Int) : Nat → Int
  | 0 => 0
  | n + 1 => sumTo f n + f n
structure PrimOk (w : Nat → Nat → Int) (n : Nat) (E : List (Nat × Nat)) (t : Nat) (s : List Int × Int × List Bool) : Prop where
  l1 : s.1.length = n
  l2 : s.2.2.length = n
  cnt : s.2.2.count true = t + 1
  j0 : jd s.2.2 0 = true
  o0 : rd s.1 0 = -1
  up : ∀ i, i < n → i ≠ 0 → jd s.2.2 i = true → 0 ≤ rd s.1 i ∧ rd s.1 i < n ∧ rd s.1 i ≠ i
  all : ∀ i, i < n → -1 ≤ rd s.1 i ∧ rd s.1 i < n
  sum : s.2.1 = sumTo (fun i => if jd s.2.2 i = true ∧ i ≠ 0 then w i (rd s.1 i).toNat else 0) n
  pot : ∃ E', (∀ e ∈ E', e ∈ E) ∧ sumW w E' + s.2.1 ≤ sumW w E ∧ ∀ u, u < n → Jn E' (jd s.2.2) u
theorem slices_Repeat_one (x : Int) (n : Nat) (h : n ≤ 1048576) : slices_Repeat_int_int.f [x] (n : Int) = some (List.replicate n x) := by
  simp only [slices_Repeat_int_int.f]; rw [if_pos (by omega), toNat_nat]

theorem rdL_nat (l : List (List Int)) (i : Nat) (h : i < l.length) : rd_L1 l (i : Int) = l[i] := by simp [rd_L1, h]

theorem plN_front (f : Nat → Nat) : ∀ n, plN f (n + 1) = f 0 + plN (fun i => f (i + 1)) n
  | 0 => by simp [plN]
  | n + 1 => by
    have ih := plN_front f n
    rw [show plN f (n + 1 + 1) = plN f (n + 1) + f (n + 1) from rfl, ih]
    rw [show plN (fun i => f (i + 1)) (n + 1) = plN (fun i => f (i + 1)) n + f (n + 1) from rfl]
    omega

theorem sumN_add (f g : Nat → Int) : ∀ n, sumN (fun i => f i + g i) n = sumN f n + sumN g n
  | 0 => rfl
  | n + 1 => by simp only [sumN, sumN_add f g n]; omega
theorem sumN_sub (f g : Nat → Int) : ∀ n, sumN (fun i => f i - g i) n = sumN f n - sumN g n
  | 0 => rfl
  | n + 1 => by simp only [sumN, sumN_sub f g n]; omega
theorem sumN_zero : ∀ n, sumN (fun _ => (0 : Int)) n = 0
  | 0 => rfl
  | n + 1 => by simp only [sumN, sumN_zero n]; rfl
theorem sumN_swap (g : Nat → Nat → Int) (m : Nat) : ∀ n, sumN (fun a => sumN (fun b => g a b) m) n = sumN (fun b => sumN (fun a => g a b) n) m
  | 0 => by simp only [sumN]; rw [sumN_zero]
  | n + 1 => by
    rw [show sumN (fun a => sumN (fun b => g a b) m) (n + 1) = sumN (fun a => sumN (fun b => g a b) m) n + sumN (fun b => g n b) m from rfl, sumN_swap g m n, ← sumN_add]
    rfl
theorem sumN_single (f : Nat → Int) (k : Nat) : ∀ n, (∀ i, i < n → i ≠ k → f i = 0) → sumN f n = if k < n then f k else 0
  | 0, _ => rfl
  | n + 1, h => by
    rw [show sumN f (n + 1) = sumN f n + f n from rfl, sumN_single f k n (fun i hi hk => h i (by omega) hk)]
    by_cases c : k < n
    · rw [if_pos c, if_pos (by omega), h n (by omega) (by omega)]; omega
    · by_cases c2 : k = n
      · subst c2; rw [if_neg c, if_pos (by omega)]; omega
      · rw [if_neg c, if_neg (by omega), h n (by omega) (Ne.symm c2)]; rfl

def valAt (f : Nat → Nat → Int) (n a : Nat) : Int := sumN (fun k => f a k - f k a) n
def across (w : Nat → Nat → Int) (n : Nat) (R : Nat → Bool) : Int := sumN (fun a => sumN (fun b => if R a = true ∧ R b = false then w a b else 0) n) n
theorem across_le {f w : Nat → Nat → Int} {n : Nat} {R : Nat → Bool} (h : ∀ a b, a < n → b < n → R a = true → R b = false → f a b ≤ w a b) : across f n R ≤ across w n R :=
  sumN_le fun a ha => sumN_le fun b hb => by
    by_cases c : R a = true ∧ R b = false
    · rw [if_pos c, if_pos c]; exact h a b ha hb c.1 c.2
    · rw [if_neg c, if_neg c]; exact Int.le_refl _
theorem across_congr {f w : Nat → Nat → Int} {n : Nat} {R : Nat → Bool} (h : ∀ a b, a < n → b < n → R a = true → R b = false → f a b = w a b) : across f n R = across w n R :=
  sumN_congr fun a ha => sumN_congr fun b hb => by
    by_cases c : R a = true ∧ R b = false
    · rw [if_pos c, if_pos c]; exact h a b ha hb c.1 c.2
    · rw [if_neg c, if_neg c]
theorem flow_across (f : Nat → Nat → Int) (n : Nat) (hn : 2 ≤ n) (R : Nat → Bool) (h0 : R 0 = true) (hl : R (n - 1) = false) (hc : ∀ a, 0 < a → a < n - 1 → valAt f n a = 0) :
    valAt f n 0 = across (fun a b => f a b - f b a) n R := by
  have s1 : sumN (fun a => if R a = true then valAt f n a else 0) n = valAt f n 0 := by
    rw [sumN_single _ 0 n (fun a ha hne => ?_), if_pos (by omega), if_pos h0]
    by_cases c : R a = true
    · rw [if_pos c]
      by_cases e : a = n - 1
      · rw [e, hl] at c; cases c
      · exact hc a (by omega) (by omega)
    · rw [if_neg c]
  have s2 : sumN (fun a => if R a = true then valAt f n a else 0) n = sumN (fun a => sumN (fun b => if R a = true ∧ R b = true then f a b - f b a else 0) n) n + across (fun a b => f a b - f b a) n R := by
    unfold across
    rw [← sumN_add]
    refine sumN_congr fun a ha => ?_
    rw [← sumN_add]
    by_cases c : R a = true
    · rw [if_pos c]
      unfold valAt
      refine sumN_congr fun b hb => ?_
      by_cases d : R b = true
      · rw [if_pos ⟨c, d⟩, if_neg (by rw [d]; simp)]; omega
      · rw [if_neg (by simp [d]), if_pos ⟨c, Bool.eq_false_iff.mpr d⟩]; exact (Int.zero_add _).symm
    · rw [if_neg c]
      rw [sumN_congr (g := fun _ => 0) (fun b hb => by rw [if_neg (fun h => c h.1), if_neg (fun h => c h.1)]; rfl), sumN_zero]
  have s3 : sumN (fun a => sumN (fun b => if R a = true ∧ R b = true then f a b - f b a else 0) n) n = 0 := by
    have e : sumN (fun a => sumN (fun b => if R a = true ∧ R b = true then f a b - f b a else 0) n) n = sumN (fun a => sumN (fun b => if R a = true ∧ R b = true then f a b else 0) n) n - sumN (fun a => sumN (fun b => if R a = true ∧ R b = true then f b a else 0) n) n := by
      rw [← sumN_sub]
      refine sumN_congr fun a ha => ?_
      rw [← sumN_sub]
      refine sumN_congr fun b hb => ?_
      by_cases c : R a = true ∧ R b = true
      · rw [if_pos c, if_pos c, if_pos c]
      · rw [if_neg c, if_neg c, if_neg c]; rfl
    have e2 : sumN (fun a => sumN (fun b => if R a = true ∧ R b = true then f b a else 0) n) n = sumN (fun a => sumN (fun b => if R a = true ∧ R b = true then f a b else 0) n) n := by
      rw [sumN_swap]
      refine sumN_congr fun a ha => sumN_congr fun b hb => ?_
      by_cases c : R a = true ∧ R b = true
      · rw [if_pos c, if_pos ⟨c.2, c.1⟩]
      · rw [if_neg c, if_neg (fun h => c ⟨h.2, h.1⟩)]
    rw [e, e2]; omega
  rw [← s1, s2, s3]; omega
theorem flow_le_cut {f w : Nat → Nat → Int} {n : Nat} (hn : 2 ≤ n) {R : Nat → Bool} (h0 : R 0 = true) (hl : R (n - 1) = false) (hc : ∀ a, 0 < a → a < n - 1 → valAt f n a = 0) (hf : ∀ a b, a < n → b < n → 0 ≤ f a b ∧ f a b ≤ w a b) :
    valAt f n 0 ≤ across w n R := by
  rw [flow_across f n hn R h0 hl hc]
  exact across_le fun a b ha hb _ _ => by
    have h1 := hf a b ha hb
    have h2 := hf b a hb ha
    omega
theorem flow_eq_cut {f w : Nat → Nat → Int} {n : Nat} (hn : 2 ≤ n) {R : Nat → Bool} (h0 : R 0 = true) (hl : R (n - 1) = false) (hc : ∀ a, 0 < a → a < n - 1 → valAt f n a = 0) (hf : ∀ a b, a < n → b < n → 0 ≤ f a b ∧ f a b ≤ w a b)
    (hr : ∀ a b, a < n → b < n → R a = true → R b = false → w a b - f a b + f b a ≤ 0) : valAt f n 0 = across w n R := by
  rw [flow_across f n hn R h0 hl hc]
  exact across_congr fun a b ha hb hA hB => by
    have h1 := hf a b ha hb
    have h2 := hf b a hb ha
    have h3 := hr a b ha hb hA hB
    omega

def ent (l : List (List Int)) (i j : Nat) : Int := rd (l.getD i []) (j : Int)
structure Sq (n : Nat) (l : List (List Int)) : Prop where
  len : l.length = n
  row : ∀ i, i < n → (l.getD i []).length = n
  lo : ∀ i j, i < n → j < n → -1000 ≤ ent l i j ∧ ent l i j ≤ 1000
def roomN (w f : List (List Int)) (a b : Nat) : Int := ent w a b - ent f a b + ent f b a
theorem rdL_getD (l : List (List Int)) (i : Nat) : rd_L1 l (i : Int) = l.getD i [] := by simp [rd_L1]
theorem impl_room_eq {n : Nat} {w f : List (List Int)} (hw : Sq n w) (hf : Sq n f) (a b : Nat) (ha : a < n) (hb : b < n) : impl_room.f w f (a : Int) (b : Int) = some (roomN w f a b) := by
  unfold impl_room.f roomN ent
  rw [rdL_getD, rdL_getD, rdL_getD]
  have h1 := hw.lo a b ha hb
  have h2 := hf.lo a b ha hb
  have h3 := hf.lo b a hb ha
  have r1 := hw.row a ha
  have r2 := hf.row a ha
  have r3 := hf.row b hb
  have l1 := hw.len
  have l2 := hf.len
  unfold ent at h1 h2 h3
  rw [if_pos (by omega), if_pos (by omega), if_pos (by omega), if_pos (by omega), if_pos (by omega), if_pos (by omega), if_pos (by omega), if_pos (by omega), w64 (x := rd (w.getD a []) (b : Int) - rd (f.getD a []) (b : Int)) (by omega) (by omega), w64 (by omega) (by omega)]

theorem spec_l13Room_eq {n : Nat} {w f : List (List Int)} (hw : Sq n w) (hf : Sq n f) (a b : Nat) (ha : a < n) (hb : b < n) : spec_l13Room.f w f (a : Int) (b : Int) = some (roomN w f a b) := by
  unfold spec_l13Room.f roomN ent
  rw [rdL_getD, rdL_getD, rdL_getD]
  have h1 := hw.lo a b ha hb
  have h2 := hf.lo a b ha hb
  have h3 := hf.lo b a hb ha
  have r1 := hw.row a ha
  have r2 := hf.row a ha
  have r3 := hf.row b hb
  have l1 := hw.len
  have l2 := hf.len
  unfold ent at h1 h2 h3
  rw [if_pos (by omega), if_pos (by omega), if_pos (by omega), if_pos (by omega), if_pos (by omega), if_pos (by omega), if_pos (by omega), if_pos (by omega), w64 (x := rd (w.getD a []) (b : Int) - rd (f.getD a []) (b : Int)) (by omega) (by omega), w64 (by omega) (by omega)]

theorem scan_head (rm : Nat → Nat → Int) (a : Nat) (fr : List Int) (q : List Nat) : ∀ m, (∃ e, (scanH rm a (fr, a :: q) m).2 = a :: (q ++ e)) ∧ (scanH rm a (fr, a :: q) m).1.length = fr.length
  | 0 => ⟨⟨[], by simp [scanH]⟩, rfl⟩
  | m + 1 => by
    obtain ⟨⟨e, h1⟩, h2⟩ := scan_head rm a fr q m
    simp only [scanH, markH]
    split
    · exact ⟨⟨e ++ [m], by rw [h1]; simp⟩, by rw [List.length_set]; exact h2⟩
    · exact ⟨⟨e, h1⟩, h2⟩
theorem impl_comeTo_l0 {n : Nat} {w f : List (List Int)} (hw : Sq n w) (hf : Sq n f) (hn : n ≤ 100) : ∀ (K : Nat) (fr : List Int) (q : List Nat) (rk : Nat → Nat), Came (roomN w f) n fr q rk → Full (roomN w f) n fr q → unseen fr n + q.length < K → K ≤ 100000 →
    Ev (fun k => impl_comeTo.l0 k w f fr (q.map fun x : Nat => (x : Int))) (comeH (roomN w f) n K fr q)
  | 0, _, _, _, _, _, h, _ => absurd h (by omega)
  | K + 1, fr, [], rk, h, hfu, _, _ => by
    refine Ev.succ ?_
    simp only [impl_comeTo.l0, comeH]
    exact Ev.neg (by simp) (Ev.now _)
  | K + 1, fr, a :: q, rk, h, hfu, hk, hK => by
    obtain ⟨rk1, h1, h2, ⟨e, h3⟩, h4, h5, h6⟩ := scan_ok h hfu (List.mem_cons_self : a ∈ a :: q) n (Nat.le_refl _)
    have ha := (h.q_lt a List.mem_cons_self).1
    refine Ev.succ ?_
    simp only [impl_comeTo.l0, comeH]
    refine Ev.pos (by simp) ?_
    have hd : (scanH (roomN w f) a (fr, a :: q) n).2 = a :: (q ++ e) := by rw [h3]; rfl
    rw [hw.len]
    have key := ev_up n (fun k i => impl_comeTo.l1 k w f (scanH (roomN w f) a (fr, a :: q) i).1 ((scanH (roomN w f) a (fr, a :: q) i).2.map fun x : Nat => (x : Int)) (n : Int) (i : Int)) (comeH (roomN w f) n K (scanH (roomN w f) a (fr, a :: q) n).1 ((scanH (roomN w f) a (fr, a :: q) n).2.drop 1)) (fun _ => True) trivial ?_ ?_
    · exact key
    · intro _
      refine Ev.succ ?_
      simp only [impl_comeTo.l1]
      refine Ev.neg (by omega) (Ev.pos (by rw [hd]; simp; omega) ?_)
      have hdr : List.drop (1 : Int).toNat (List.map (fun x : Nat => (x : Int)) (scanH (roomN w f) a (fr, a :: q) n).2) = ((scanH (roomN w f) a (fr, a :: q) n).2.drop 1).map fun x : Nat => (x : Int) := by rw [List.map_drop]; rfl
      rw [hdr]
      refine impl_comeTo_l0 hw hf hn K _ _ rk1 ⟨h1.len, h1.zero, h1.lo, fun x hx => h1.q_lt x (by rw [hd] at hx ⊢; exact List.mem_cons_of_mem _ hx), h1.par, h1.rkn⟩ (fun x hx hxp hxq y hy hxy => ?_) ?_ (by omega)
      · by_cases c : x = a
        · subst c; exact h5 y hy hxy
        · refine h2 x hx hxp (fun hm => ?_) y hy hxy
          rw [hd] at hm hxq
          rcases List.mem_cons.mp hm with hm | hm
          · exact c hm
          · exact hxq hm
      · rw [hd] at h6 ⊢
        simp only [List.drop_one, List.tail_cons]
        simp only [List.length_cons] at h6 hk
        omega
    · intro i hi _ hnx
      have hnx := hnx trivial
      obtain ⟨⟨e1, g1⟩, g2⟩ := scan_head (roomN w f) a fr q i
      obtain ⟨_, _, _, _, _, _, g6⟩ := scan_ok h hfu (List.mem_cons_self : a ∈ a :: q) i (by omega)
      have hl : (scanH (roomN w f) a (fr, a :: q) i).1.length = n := by rw [g2]; exact h.len
      refine Ev.succ ?_
      simp only [impl_comeTo.l1]
      have hq0 : rd (List.map (fun x : Nat => (x : Int)) (scanH (roomN w f) a (fr, a :: q) i).2) 0 = (a : Int) := by rw [g1]; simp [rd, rdOf]
      rw [hq0, impl_room_eq hw hf a i ha hi, toNat_nat, w64 (x := (i : Int) + 1) (by omega) (by omega)]
      refine Ev.pos (by omega) (Ev.pos (by omega) (Ev.pos (by rw [hl]; omega) ?_))
      have hstep : scanH (roomN w f) a (fr, a :: q) (i + 1) = markH (roomN w f) a (scanH (roomN w f) a (fr, a :: q) i) i := rfl
      rw [hstep] at hnx
      unfold markH at hnx
      by_cases c : rd (scanH (roomN w f) a (fr, a :: q) i).1 (i : Int) < 0
      · refine Ev.pos c (Ev.pos (by rw [g1]; simp; omega) (Ev.bind0 (a := roomN w f a i) rfl ?_))
        by_cases d : roomN w f a i > 0
        · rw [if_pos ⟨c, d⟩] at hnx
          refine Ev.pos d (Ev.pos (by rw [List.length_map]; simp only [List.length_cons] at g6 hk; omega) ?_)
          dsimp only at hnx
          rw [List.map_append] at hnx
          exact hnx
        · rw [if_neg (fun z => d z.2)] at hnx
          exact Ev.neg d hnx
      · rw [if_neg (fun z => c z.1)] at hnx
        exact Ev.neg c hnx

def startF (n : Nat) : List Int := (List.replicate n (-1 : Int)).set 0 0
def cameF (rm : Nat → Nat → Int) (n : Nat) : List Int := comeH rm n (n + 2) (startF n) [0]
theorem startF_rd (n b : Nat) (hb : b < n) : rd (startF n) (b : Int) = if b = 0 then 0 else -1 := by
  unfold startF
  rw [rd_setc _ 0 b 0 (by simp; omega)]
  split
  · rfl
  · rw [rd_nat _ b (by simp; exact hb)]; simp
theorem unseen_le (fr : List Int) : ∀ n, unseen fr n ≤ n
  | 0 => Nat.le_refl _
  | n + 1 => by
    have := unseen_le fr n
    unfold unseen at this ⊢
    simp only [plN]
    split <;> omega
theorem unseen_lt (fr : List Int) (n : Nat) (hn : 0 < n) (h : 0 ≤ rd fr 0) : unseen fr n < n := by
  obtain ⟨m, rfl⟩ : ∃ m, n = m + 1 := ⟨n - 1, by omega⟩
  unfold unseen
  rw [plN_front, if_neg (show ¬ rd fr ((0 : Nat) : Int) < 0 by rw [show ((0 : Nat) : Int) = 0 from rfl]; omega)]
  have gen : ∀ k, plN (fun i => if rd fr ((i + 1 : Nat) : Int) < 0 then 1 else 0) k ≤ k := by
    intro k
    induction k with
    | zero => exact Nat.le_refl _
    | succ k ih => simp only [plN]; split <;> omega
  have := gen m
  omega
theorem start_came (rm : Nat → Nat → Int) (n : Nat) (hn : 0 < n) : Came rm n (startF n) [0] (fun _ => 0) ∧ Full rm n (startF n) [0] := by
  have h0 : rd (startF n) 0 = 0 := by have := startF_rd n 0 hn; rw [if_pos rfl] at this; exact this
  refine ⟨⟨by simp [startF], h0, fun b hb => ?_, fun x hx => ?_, fun b hb hb0 hp => ?_, fun b hb hp => ?_⟩, fun a ha hp hq => ?_⟩
  · rw [startF_rd n b hb]; split <;> omega
  · rw [List.mem_singleton] at hx; subst hx
    exact ⟨hn, by rw [show ((0 : Nat) : Int) = 0 from rfl, h0]; omega⟩
  · rw [startF_rd n b hb, if_neg hb0] at hp; omega
  · have := unseen_lt (startF n) n hn (by rw [h0]; omega); omega
  · by_cases e : a = 0
    · subst e; exact absurd List.mem_cons_self hq
    · rw [startF_rd n a ha, if_neg e] at hp; omega
theorem cameF_ok (rm : Nat → Nat → Int) (n : Nat) (hn : 0 < n) : ∃ rk, Came rm n (cameF rm n) [] rk ∧ Full rm n (cameF rm n) [] := by
  obtain ⟨h1, h2⟩ := start_came rm n hn
  exact come_ok (n + 2) _ _ _ h1 h2 (by have := unseen_le (startF n) n; simp; omega)

theorem impl_comeTo_ev {n : Nat} {w f : List (List Int)} (hw : Sq n w) (hf : Sq n f) (hn : 0 < n ∧ n ≤ 100) : Ev (fun k => impl_comeTo.f k w f) (cameF (roomN w f) n) := by
  unfold impl_comeTo.f
  rw [hw.len, slices_Repeat_one (-1) n (by omega)]
  refine Ev.bind0 (a := List.replicate n (-1)) rfl (Ev.pos (by simp; omega) ?_)
  obtain ⟨h1, h2⟩ := start_came (roomN w f) n hn.1
  exact impl_comeTo_l0 hw hf hn.2 (n + 2) (startF n) [0] _ h1 h2 (by have := unseen_le (startF n) n; simp; omega) (by omega)

def encS (fr : List Int) : List Int := (List.range fr.length).map fun b : Nat => if b = 0 then -1 else if rd fr (b : Int) < 0 then -2 else rd fr (b : Int)
theorem encS_len (fr : List Int) : (encS fr).length = fr.length := by simp [encS]
theorem encS_rd (fr : List Int) (b : Nat) (hb : b < fr.length) : rd (encS fr) (b : Int) = if b = 0 then -1 else if rd fr (b : Int) < 0 then -2 else rd fr (b : Int) := by
  rw [rd_nat _ b (by rw [encS_len]; exact hb)]; simp [encS]
theorem encS_set (fr : List Int) (b : Nat) (hb : b < fr.length) (h0 : b ≠ 0) (v : Int) (hv : 0 ≤ v) : (encS fr).set b v = encS (fr.set b v) := by
  apply List.ext_getElem (by simp [encS])
  intro i h1 h2
  have hi : i < fr.length := by simpa [encS] using h1
  have e1 := encS_rd (fr.set b v) i (by simp; exact hi)
  have e2 := encS_rd fr i hi
  rw [rd_nat _ i (by rw [encS_len, List.length_set]; exact hi), rd_setc fr b i v hb] at e1
  rw [rd_nat _ i (by rw [encS_len]; exact hi)] at e2
  rw [e1, List.getElem_set]
  by_cases e : b = i
  · subst e; rw [if_pos rfl, if_neg h0, if_pos rfl, if_neg (by omega)]
  · rw [if_neg e, e2, if_neg (Ne.symm e)]
theorem spec_l13Come_l1 {n : Nat} {w f : List (List Int)} (hw : Sq n w) (hf : Sq n f) (hn : n ≤ 100) : ∀ (K : Nat) (fr : List Int) (q : List Nat) (rk : Nat → Nat), Came (roomN w f) n fr q rk → Full (roomN w f) n fr q → unseen fr n + q.length < K → K ≤ 100000 →
    Ev (fun k => spec_l13Come.l1 k w f (encS fr) (q.map fun x : Nat => (x : Int))) (encS (comeH (roomN w f) n K fr q))
  | 0, _, _, _, _, _, h, _ => absurd h (by omega)
  | K + 1, fr, [], rk, h, hfu, _, _ => by
    refine Ev.succ ?_
    simp only [spec_l13Come.l1, comeH]
    exact Ev.neg (by simp) (Ev.now _)
  | K + 1, fr, a :: q, rk, h, hfu, hk, hK => by
    obtain ⟨rk1, h1, h2, ⟨e, h3⟩, h4, h5, h6⟩ := scan_ok h hfu (List.mem_cons_self : a ∈ a :: q) n (Nat.le_refl _)
    obtain ⟨ha, ha0⟩ := h.q_lt a List.mem_cons_self
    refine Ev.succ ?_
    simp only [spec_l13Come.l1, comeH]
    refine Ev.pos (by simp) (Ev.pos (by first | (simp; done) | (simp; omega)) (Ev.pos (by first | (simp; done) | (simp; omega)) ?_))
    have hd : (scanH (roomN w f) a (fr, a :: q) n).2 = a :: (q ++ e) := by rw [h3]; rfl
    have hq0 : rd (List.map (fun x : Nat => (x : Int)) (a :: q)) 0 = (a : Int) := by simp [rd, rdOf]
    have hdr0 : List.drop (1 : Int).toNat (List.map (fun x : Nat => (x : Int)) (a :: q)) = ((scanH (roomN w f) a (fr, a :: q) 0).2.drop 1).map fun x : Nat => (x : Int) := by rfl
    rw [hw.len, hq0, hdr0]
    have key := ev_up n (fun k i => spec_l13Come.l2 k w f (encS (scanH (roomN w f) a (fr, a :: q) i).1) (((scanH (roomN w f) a (fr, a :: q) i).2.drop 1).map fun x : Nat => (x : Int)) (a : Int) (n : Int) (i : Int)) (encS (comeH (roomN w f) n K (scanH (roomN w f) a (fr, a :: q) n).1 ((scanH (roomN w f) a (fr, a :: q) n).2.drop 1))) (fun _ => True) trivial ?_ ?_
    · exact key
    · intro _
      refine Ev.succ ?_
      simp only [spec_l13Come.l2]
      refine Ev.neg (by omega) ?_
      refine spec_l13Come_l1 hw hf hn K _ _ rk1 ⟨h1.len, h1.zero, h1.lo, fun x hx => h1.q_lt x (by rw [hd] at hx ⊢; exact List.mem_cons_of_mem _ hx), h1.par, h1.rkn⟩ (fun x hx hxp hxq y hy hxy => ?_) ?_ (by omega)
      · by_cases c : x = a
        · subst c; exact h5 y hy hxy
        · refine h2 x hx hxp (fun hm => ?_) y hy hxy
          rw [hd] at hm hxq
          rcases List.mem_cons.mp hm with hm | hm
          · exact c hm
          · exact hxq hm
      · rw [hd] at h6 ⊢
        simp only [List.drop_one, List.tail_cons]
        simp only [List.length_cons] at h6 hk
        omega
    · intro i hi _ hnx
      have hnx := hnx trivial
      obtain ⟨⟨e1, g1⟩, g2⟩ := scan_head (roomN w f) a fr q i
      obtain ⟨_, g3, _, _, _, _, g6⟩ := scan_ok h hfu (List.mem_cons_self : a ∈ a :: q) i (by omega)
      have hl : (scanH (roomN w f) a (fr, a :: q) i).1.length = n := by rw [g2]; exact h.len
      refine Ev.succ ?_
      simp only [spec_l13Come.l2]
      rw [spec_l13Room_eq hw hf a i ha hi, toNat_nat, w64 (x := (i : Int) + 1) (by omega) (by omega)]
      refine Ev.pos (by omega) (Ev.pos (by omega) (Ev.pos (by rw [encS_len, hl]; omega) ?_))
      have hstep : scanH (roomN w f) a (fr, a :: q) (i + 1) = markH (roomN w f) a (scanH (roomN w f) a (fr, a :: q) i) i := rfl
      rw [hstep] at hnx
      unfold markH at hnx
      have hrd := encS_rd (scanH (roomN w f) a (fr, a :: q) i).1 i (by rw [hl]; exact hi)
      by_cases c : rd (scanH (roomN w f) a (fr, a :: q) i).1 (i : Int) < 0
      · have hi0 : i ≠ 0 := fun e => by have h9 := g3.zero; subst e; rw [show ((0 : Nat) : Int) = 0 from rfl, h9] at c; omega
        rw [if_neg hi0, if_pos c] at hrd
        refine Ev.pos hrd (Ev.bind0 (a := roomN w f a i) rfl ?_)
        by_cases d : roomN w f a i > 0
        · rw [if_pos ⟨c, d⟩] at hnx
          refine Ev.pos d (Ev.pos (by rw [List.length_map, List.length_drop]; simp only [List.length_cons] at g6 hk; omega) ?_)
          dsimp only at hnx
          rw [encS_set _ i (by rw [hl]; exact hi) hi0 _ (by omega)]
          rw [g1, List.cons_append, List.drop_one, List.tail_cons, List.map_append] at hnx
          rw [g1, List.drop_one, List.tail_cons]
          exact hnx
        · rw [if_neg (fun z => d z.2)] at hnx
          exact Ev.neg d hnx
      · rw [if_neg (fun z => c z.1)] at hnx
        refine Ev.neg ?_ hnx
        rw [hrd]
        by_cases e0 : i = 0
        · rw [if_pos e0]; omega
        · rw [if_neg e0, if_neg c]; omega
theorem spec_l13Come_ev {n : Nat} {w f : List (List Int)} (hw : Sq n w) (hf : Sq n f) (hn : 0 < n ∧ n ≤ 100) : Ev (fun k => spec_l13Come.f k w f) (encS (cameF (roomN w f) n)) := by
  unfold spec_l13Come.f
  rw [hw.len]
  refine Ev.pos (by omega) (Ev.pos (by rw [toNat_nat]; omega) (Ev.bind0 (a := List.replicate n 0) (by rw [toNat_nat]) ?_))
  rw [List.length_replicate]
  obtain ⟨h1, h2⟩ := start_came (roomN w f) n hn.1
  have key := ev_up n (fun k i => spec_l13Come.l0 k w f (List.replicate i (-2) ++ List.replicate (n - i) 0) (n : Int) (i : Int)) (encS (cameF (roomN w f) n)) (fun _ => True) trivial ?_ ?_
  · simpa using key
  · intro _
    refine Ev.succ ?_
    simp only [spec_l13Come.l0]
    refine Ev.neg (by omega) (Ev.pos (by simp; omega) ?_)
    have e : (List.replicate n (-2 : Int) ++ List.replicate (n - n) 0).set (0 : Int).toNat (-1) = encS (startF n) := by
      apply List.ext_getElem (by simp [encS, startF])
      intro i g1 g2
      have hi : i < n := by simpa [encS, startF] using g2
      have e2 := encS_rd (startF n) i (by simp [startF]; exact hi)
      rw [rd_nat _ i g2] at e2
      rw [e2, startF_rd n i hi]
      rw [List.getElem_set]
      by_cases c : i = 0
      · subst c; simp
      · rw [if_neg (show ¬ ((0 : Int).toNat = i) from fun h => c h.symm)]
        simp only [if_neg c]
        rw [if_pos (show (-1 : Int) < 0 by omega)]
        rw [List.getElem_append_left (by simp; exact hi)]; simp
    rw [e]
    exact spec_l13Come_l1 hw hf hn.2 (n + 2) (startF n) [0] _ h1 h2 (by have := unseen_le (startF n) n; simp; omega) (by omega)
  · intro i hi _ hnx
    refine Ev.succ ?_
    simp only [spec_l13Come.l0]
    rw [toNat_nat, w64 (x := (i : Int) + 1) (by omega) (by omega)]
    refine Ev.pos (by omega) (Ev.pos (by omega) (Ev.pos (by simp; omega) ?_))
    have e : (List.replicate i (-2 : Int) ++ List.replicate (n - i) 0).set i (-2) = List.replicate (i + 1) (-2) ++ List.replicate (n - (i + 1)) 0 := by
      rw [List.set_append_right _ _ (by simp), List.length_replicate, Nat.sub_self, show n - i = (n - (i + 1)) + 1 by omega, List.replicate_succ, List.set_cons_zero, List.replicate_succ', List.append_assoc]
      rfl
    rw [e]
    exact hnx trivial

def upH (fr : List Int) : Nat → Nat → List Nat
  | 0, x => [x]
  | k + 1, x => if x = 0 then [0] else x :: upH fr k (rd fr (x : Int)).toNat
inductive Way (rm : Nat → Nat → Int) (n : Nat) : Nat → Nat → List Nat → Prop
  | one : 0 < n → Way rm n 0 0 [0]
  | snoc {a b : Nat} {l : List Nat} : Way rm n 0 a l → b < n → b ∉ l → 0 < rm a b → Way rm n 0 b (l ++ [b])
theorem up_ok {rm : Nat → Nat → Int} {n : Nat} {fr : List Int} {rk : Nat → Nat} (hn : 0 < n) (h : Came rm n fr [] rk) : ∀ (k x : Nat), x < n → 0 ≤ rd fr (x : Int) → rk x ≤ k → Way rm n 0 x (upH fr k x).reverse ∧ (∀ y ∈ upH fr k x, rk y ≤ rk x) ∧ (upH fr k x).length ≤ k + 1
  | 0, x, hx, hp, hk => by
    have e : x = 0 := by
      by_cases c : x = 0
      · exact c
      · obtain ⟨a, _, _, _, _, h5⟩ := h.par x hx c hp; omega
    subst e
    exact ⟨Way.one hn, fun y hy => by rw [upH, List.mem_singleton] at hy; subst hy; exact Nat.le_refl _, by simp [upH]⟩
  | k + 1, x, hx, hp, hk => by
    simp only [upH]
    by_cases c : x = 0
    · subst c; rw [if_pos rfl]
      exact ⟨Way.one hn, fun y hy => by rw [List.mem_singleton] at hy; subst hy; exact Nat.le_refl _, by simp⟩
    · rw [if_neg c]
      obtain ⟨a, h1, h2, h3, h4, h5⟩ := h.par x hx c hp
      rw [h2, Int.toNat_natCast]
      obtain ⟨g1, g2, g3⟩ := up_ok hn h k a h1 h3 (by omega)
      refine ⟨?_, fun y hy => ?_, by simp only [List.length_cons]; omega⟩
      · rw [List.reverse_cons]
        refine Way.snoc g1 hx (fun hm => ?_) h4
        have := g2 x (List.mem_reverse.mp hm); omega
      · rcases List.mem_cons.mp hy with hy | hy
        · subst hy; exact Nat.le_refl _
        · have := g2 y hy; omega
def netWay (rm : Nat → Nat → Int) (n : Nat) : List Nat := if rd (cameF rm n) ((n - 1 : Nat) : Int) < 0 then [] else (upH (cameF rm n) n (n - 1)).reverse
theorem netWay_ok (rm : Nat → Nat → Int) (n : Nat) (hn : 0 < n) : netWay rm n = [] ∧ rd (cameF rm n) ((n - 1 : Nat) : Int) < 0 ∨ Way rm n 0 (n - 1) (netWay rm n) ∧ (netWay rm n).length ≤ n + 1 := by
  unfold netWay
  by_cases c : rd (cameF rm n) ((n - 1 : Nat) : Int) < 0
  · left; rw [if_pos c]; exact ⟨rfl, c⟩
  · right
    rw [if_neg c]
    obtain ⟨rk, h, _⟩ := cameF_ok rm n hn
    have := h.rkn (n - 1) (by omega) (by omega)
    obtain ⟨g1, _, g3⟩ := up_ok hn h n (n - 1) (by omega) (by omega) (by omega)
    exact ⟨g1, by rw [List.length_reverse]; exact g3⟩
theorem way_ne {rm : Nat → Nat → Int} {n a b : Nat} {l : List Nat} (h : Way rm n a b l) : l ≠ [] := by
  cases h with
  | one _ => simp
  | snoc _ _ _ _ => simp

theorem impl_nextWay_l0 {rm : Nat → Nat → Int} {n : Nat} {fr : List Int} {rk : Nat → Nat} (hn : 0 < n ∧ n ≤ 100) (h : Came rm n fr [] rk) : ∀ (k x : Nat) (pre : List Int), x < n → 0 ≤ rd fr (x : Int) → rk x ≤ k → pre.length + k ≤ 1000 →
    Ev (fun m => impl_nextWay.l0 m fr (pre ++ [(x : Int)]) (x : Int)) (pre ++ (upH fr k x).map fun y : Nat => (y : Int)).reverse
  | 0, x, pre, hx, hp, hk, hpl => by
    have e : x = 0 := by
      by_cases c : x = 0
      · exact c
      · obtain ⟨a, _, _, _, _, h5⟩ := h.par x hx c hp; omega
    subst e
    refine Ev.succ ?_
    simp only [impl_nextWay.l0]
    refine Ev.pos (by omega) (Ev.bind (slices_Reverse_ev _ (by simp; omega)) (Ev.pos (by first | (simp; done) | (simp; omega)) (Ev.to (Ev.now _) ?_)))
    simp [upH]
  | k + 1, x, pre, hx, hp, hk, hpl => by
    simp only [upH]
    by_cases c : x = 0
    · subst c; rw [if_pos rfl]
      refine Ev.succ ?_
      simp only [impl_nextWay.l0]
      refine Ev.pos (by omega) (Ev.bind (slices_Reverse_ev _ (by simp; omega)) (Ev.pos (by first | (simp; done) | (simp; omega)) (Ev.to (Ev.now _) ?_)))
      simp
    · rw [if_neg c]
      obtain ⟨a, h1, h2, h3, h4, h5⟩ := h.par x hx c hp
      refine Ev.succ ?_
      simp only [impl_nextWay.l0]
      rw [h2, Int.toNat_natCast]
      refine Ev.neg (by omega) (Ev.pos (by omega) (Ev.pos (by rw [h.len]; omega) (Ev.pos (by simp; omega) ?_)))
      refine Ev.to (impl_nextWay_l0 hn h k a (pre ++ [(x : Int)]) h1 h3 (by omega) (by simp; omega)) ?_
      rw [List.map_cons, List.append_assoc]; rfl
theorem impl_nextWay_ev {n : Nat} {w f : List (List Int)} (hw : Sq n w) (hf : Sq n f) (hn : 0 < n ∧ n ≤ 100) : Ev (fun k => impl_nextWay.f k w f) ((netWay (roomN w f) n).map fun y : Nat => (y : Int)) := by
  unfold impl_nextWay.f
  obtain ⟨rk, h, _⟩ := cameF_ok (roomN w f) n hn.1
  rw [hw.len, w64 (by omega) (by omega), show (n : Int) - 1 = ((n - 1 : Nat) : Int) by omega]
  refine Ev.bind (impl_comeTo_ev hw hf hn) (Ev.pos (by omega) (Ev.pos (by rw [h.len]; omega) ?_))
  unfold netWay
  refine Ev.ite (fun c => ?_) (fun c => ?_)
  · rw [if_pos c]; exact Ev.now _
  · rw [if_neg c]
    have := h.rkn (n - 1) (by omega) (by omega)
    refine Ev.to (impl_nextWay_l0 hn h n (n - 1) [] (by omega) (by omega) (by omega) (by simp; omega)) ?_
    rw [List.nil_append, List.map_reverse]

theorem spec_l13Way_l0 {rm : Nat → Nat → Int} {n : Nat} {fr : List Int} {rk : Nat → Nat} (hn : 0 < n ∧ n ≤ 100) (h : Came rm n fr [] rk) : ∀ (k x : Nat) (out : List Int), x < n → 0 ≤ rd fr (x : Int) → rk x ≤ k → out.length + k ≤ 1000 →
    Ev (fun m => spec_l13Way.l0 m (encS fr) (x : Int) out) (((upH fr k x).map fun y : Nat => (y : Int)).reverse ++ out) := by
  have hz : ∀ (out : List Int), out.length ≤ 1000 → Ev (fun m => spec_l13Way.l0 m (encS fr) ((0 : Nat) : Int) out) (0 :: out) := fun out ho => by
    refine Ev.succ ?_
    simp only [spec_l13Way.l0]
    have e := encS_rd fr 0 (by rw [h.len]; omega)
    rw [if_pos rfl] at e
    refine Ev.pos (by omega) (Ev.bind0 (a := [((0 : Nat) : Int)]) rfl (Ev.pos (by simp; omega) (Ev.pos (by omega) (Ev.pos (by rw [encS_len, h.len]; omega) ?_))))
    rw [e]
    refine Ev.succ ?_
    simp only [spec_l13Way.l0]
    exact Ev.neg (by omega) (Ev.now _)
  intro k
  induction k with
  | zero =>
    intro x out hx hp hk ho
    have e : x = 0 := by
      by_cases c : x = 0
      · exact c
      · obtain ⟨a, _, _, _, _, h5⟩ := h.par x hx c hp; omega
    subst e
    exact Ev.to (hz out (by omega)) (by simp [upH])
  | succ k ih =>
    intro x out hx hp hk ho
    simp only [upH]
    by_cases c : x = 0
    · subst c; rw [if_pos rfl]; exact Ev.to (hz out (by omega)) (by simp)
    · rw [if_neg c]
      obtain ⟨a, h1, h2, h3, h4, h5⟩ := h.par x hx c hp
      refine Ev.succ ?_
      simp only [spec_l13Way.l0]
      have e := encS_rd fr x (by rw [h.len]; omega)
      rw [if_neg c, if_neg (by omega), h2] at e
      rw [e, h2, Int.toNat_natCast]
      refine Ev.pos (by omega) (Ev.bind0 (a := [(x : Int)]) rfl (Ev.pos (by simp; omega) (Ev.pos (by omega) (Ev.pos (by rw [encS_len, h.len]; omega) ?_))))
      refine Ev.to (ih a ([(x : Int)] ++ out) h1 h3 (by omega) (by simp; omega)) ?_
      simp
theorem spec_l13Way_ev {n : Nat} {w f : List (List Int)} (hw : Sq n w) (hf : Sq n f) (hn : 0 < n ∧ n ≤ 100) : Ev (fun k => spec_l13Way.f k w f) ((netWay (roomN w f) n).map fun y : Nat => (y : Int)) := by
  unfold spec_l13Way.f
  obtain ⟨rk, h, _⟩ := cameF_ok (roomN w f) n hn.1
  rw [hw.len, w64 (by omega) (by omega), show (n : Int) - 1 = ((n - 1 : Nat) : Int) by omega]
  refine Ev.bind (spec_l13Come_ev hw hf hn) (Ev.pos (by omega) (Ev.pos (by rw [encS_len, h.len]; omega) ?_))
  unfold netWay
  have e := encS_rd (cameF (roomN w f) n) (n - 1) (by rw [h.len]; omega)
  rw [e]
  by_cases c : rd (cameF (roomN w f) n) ((n - 1 : Nat) : Int) < 0
  · have h0 : n - 1 ≠ 0 := fun e0 => by have := h.zero; rw [e0, show ((0 : Nat) : Int) = 0 from rfl, this] at c; omega
    rw [if_neg h0, if_pos c, if_pos c]
    exact Ev.pos rfl (Ev.now _)
  · rw [if_neg c, if_neg c]
    have hr := h.rkn (n - 1) (by omega) (by omega)
    refine Ev.neg ?_ (Ev.to (spec_l13Way_l0 hn h n (n - 1) [] (by omega) (by omega) (by omega) (by simp; omega)) ?_)
    · split <;> omega
    · rw [List.append_nil, List.map_reverse]

def setE (l : List (List Int)) (i j : Nat) (v : Int) : List (List Int) := l.set i ((l.getD i []).set j v)
theorem setE_getD (l : List (List Int)) (i j : Nat) (v : Int) (hi : i < l.length) (x : Nat) : (setE l i j v).getD x [] = if x = i then (l.getD i []).set j v else l.getD x [] := by
  unfold setE
  rw [List.getD_eq_getElem?_getD, List.getElem?_set]
  by_cases e : i = x
  · subst e; rw [if_pos rfl, if_pos rfl, if_pos hi]; rfl
  · rw [if_neg e, if_neg (Ne.symm e), List.getD_eq_getElem?_getD]
theorem setE_ent (l : List (List Int)) (i j : Nat) (v : Int) (hi : i < l.length) (hj : j < (l.getD i []).length) (x y : Nat) : ent (setE l i j v) x y = if x = i ∧ y = j then v else ent l x y := by
  unfold ent
  rw [setE_getD l i j v hi x]
  by_cases e : x = i
  · subst e
    rw [if_pos rfl, rd_setc _ j y v hj]
    by_cases d : y = j
    · rw [if_pos d, if_pos ⟨rfl, d⟩]
    · rw [if_neg d, if_neg (fun z => d z.2)]
  · rw [if_neg e, if_neg (fun z => e z.1)]
theorem setE_len (l : List (List Int)) (i j : Nat) (v : Int) : (setE l i j v).length = l.length := by simp [setE]
theorem setE_row (l : List (List Int)) (i j : Nat) (v : Int) (hi : i < l.length) (x : Nat) : ((setE l i j v).getD x []).length = (l.getD x []).length := by
  rw [setE_getD l i j v hi x]
  split
  · rename_i e; subst e; simp
  · rfl
def pushE (m : Int) (l : List (List Int)) (a b : Nat) : List (List Int) := setE (setE l b a (ent l b a - min m (ent l b a))) a b (ent (setE l b a (ent l b a - min m (ent l b a))) a b + (m - min m (ent l b a)))
theorem pushE_len (m : Int) (l : List (List Int)) (a b : Nat) : (pushE m l a b).length = l.length := by simp [pushE, setE_len]
theorem pushE_row (m : Int) (l : List (List Int)) (a b : Nat) (ha : a < l.length) (hb : b < l.length) (x : Nat) : ((pushE m l a b).getD x []).length = (l.getD x []).length := by
  unfold pushE
  rw [setE_row _ _ _ _ (by rw [setE_len]; exact ha), setE_row _ _ _ _ hb]
theorem pushE_ent (m : Int) (l : List (List Int)) (n a b : Nat) (hl : l.length = n) (hr : ∀ i, i < n → (l.getD i []).length = n) (ha : a < n) (hb : b < n) (hab : a ≠ b) (x y : Nat) :
    ent (pushE m l a b) x y = if x = a ∧ y = b then ent l a b + (m - min m (ent l b a)) else if x = b ∧ y = a then ent l b a - min m (ent l b a) else ent l x y := by
  unfold pushE
  have e1 : ∀ x y, ent (setE l b a (ent l b a - min m (ent l b a))) x y = if x = b ∧ y = a then ent l b a - min m (ent l b a) else ent l x y := fun x y => setE_ent l b a _ (by omega) (by rw [hr b hb]; exact ha) x y
  have e2 := e1 a b
  rw [if_neg (fun z => hab z.1)] at e2
  rw [setE_ent _ a b _ (by rw [setE_len]; omega) (by rw [setE_row _ _ _ _ (by omega), hr a ha]; exact hb), e2, e1 x y]
theorem pushE_val (m : Int) (l : List (List Int)) (n a b : Nat) (hl : l.length = n) (hr : ∀ i, i < n → (l.getD i []).length = n) (ha : a < n) (hb : b < n) (hab : a ≠ b) (h : Nat) (hh : h < n) :
    valAt (ent (pushE m l a b)) n h = valAt (ent l) n h + (if h = a then m else 0) - (if h = b then m else 0) := by
  have key : valAt (ent (pushE m l a b)) n h - valAt (ent l) n h = (if h = a then m else 0) - (if h = b then m else 0) := by
    unfold valAt
    rw [← sumN_sub]
    by_cases e1 : h = a
    · subst e1
      rw [sumN_single _ b n (fun i hi hne => ?_), if_pos hb, if_pos rfl, if_neg hab]
      · rw [pushE_ent m l n h b hl hr ha hb hab, pushE_ent m l n h b hl hr ha hb hab, if_pos ⟨rfl, rfl⟩, if_neg (fun z => hab z.1.symm), if_pos ⟨rfl, rfl⟩]; omega
      · rw [pushE_ent m l n h b hl hr ha hb hab, pushE_ent m l n h b hl hr ha hb hab, if_neg (fun z => hne z.2), if_neg (fun z => hab z.1), if_neg (fun z => hab z.2), if_neg (fun z => hne z.1)]; omega
    · by_cases e2 : h = b
      · subst e2
        rw [sumN_single _ a n (fun i hi hne => ?_), if_pos ha, if_neg e1, if_pos rfl]
        · rw [pushE_ent m l n a h hl hr ha hb hab, pushE_ent m l n a h hl hr ha hb hab, if_neg (fun z => e1 z.1), if_pos ⟨rfl, rfl⟩, if_pos ⟨rfl, rfl⟩]; omega
        · rw [pushE_ent m l n a h hl hr ha hb hab, pushE_ent m l n a h hl hr ha hb hab, if_neg (fun z => e1 z.1), if_neg (fun z => hne z.2), if_neg (fun z => hne z.1), if_neg (fun z => e1 z.2)]; omega
      · rw [sumN_congr (g := fun _ => 0) (fun i hi => ?_), sumN_zero, if_neg e1, if_neg e2]; rfl
        rw [pushE_ent m l n a b hl hr ha hb hab, pushE_ent m l n a b hl hr ha hb hab, if_neg (fun z => e1 z.1), if_neg (fun z => e2 z.1), if_neg (fun z => e2 z.2), if_neg (fun z => e1 z.2)]; omega
  omega
def pushTo (m : Int) (W : List Nat) (l : List (List Int)) : Nat → List (List Int)
  | 0 => l
  | i + 1 => pushE m (pushTo m W l i) (W.getD i 0) (W.getD (i + 1) 0)
def leastRoom (rm : Nat → Nat → Int) (W : List Nat) (c : Int) : Nat → Int
  | 0 => c
  | i + 1 => min (leastRoom rm W c i) (rm (W.getD i 0) (W.getD (i + 1) 0))
theorem leastRoom_le (rm : Nat → Nat → Int) (W : List Nat) (c : Int) : ∀ i, leastRoom rm W c i ≤ c ∧ ∀ j, j < i → leastRoom rm W c i ≤ rm (W.getD j 0) (W.getD (j + 1) 0)
  | 0 => ⟨Int.le_refl _, fun j hj => absurd hj (by omega)⟩
  | i + 1 => by
    obtain ⟨h1, h2⟩ := leastRoom_le rm W c i
    refine ⟨by simp only [leastRoom]; omega, fun j hj => ?_⟩
    simp only [leastRoom]
    by_cases e : j = i
    · subst e; omega
    · have := h2 j (by omega); omega
theorem leastRoom_pos (rm : Nat → Nat → Int) (W : List Nat) (c : Int) (hc : 0 < c) : ∀ i, (∀ j, j < i → 0 < rm (W.getD j 0) (W.getD (j + 1) 0)) → 0 < leastRoom rm W c i
  | 0, _ => hc
  | i + 1, h => by
    have h1 := leastRoom_pos rm W c hc i (fun j hj => h j (by omega))
    have h2 := h i (by omega)
    simp only [leastRoom]; omega
theorem leastRoom_eq (rm : Nat → Nat → Int) (W : List Nat) (c d : Int) : ∀ i, (∀ j, j < i + 1 → rm (W.getD j 0) (W.getD (j + 1) 0) ≤ c ∧ rm (W.getD j 0) (W.getD (j + 1) 0) ≤ d) → leastRoom rm W c (i + 1) = leastRoom rm W d (i + 1)
  | 0, h => by have := h 0 (by omega); simp only [leastRoom]; omega
  | i + 1, h => by
    have ih := leastRoom_eq rm W c d i (fun j hj => h j (by omega))
    rw [show leastRoom rm W c (i + 1 + 1) = min (leastRoom rm W c (i + 1)) (rm (W.getD (i + 1) 0) (W.getD (i + 1 + 1) 0)) from rfl, ih]; rfl

structure IsFl (n : Nat) (w : Nat → Nat → Int) (l : List (List Int)) : Prop where
  len : l.length = n
  row : ∀ i, i < n → (l.getD i []).length = n
  lo : ∀ a b, a < n → b < n → 0 ≤ ent l a b ∧ ent l a b ≤ w a b
theorem push_ok {n : Nat} {w : List (List Int)} {l : List (List Int)} {W : List Nat} {m : Int} (h : IsFl n (ent w) l) (hm : 0 < m) (hW : ∀ i, i < W.length → W.getD i 0 < n) (hnd : ∀ i j, i < W.length → j < W.length → W.getD i 0 = W.getD j 0 → i = j)
    (hroom : ∀ j, j + 1 < W.length → m ≤ roomN w l (W.getD j 0) (W.getD (j + 1) 0)) : ∀ i, i < W.length →
    IsFl n (ent w) (pushTo m W l i) ∧ (∀ x, x < n → valAt (ent (pushTo m W l i)) n x = valAt (ent l) n x + (if x = W.getD 0 0 then m else 0) - (if x = W.getD i 0 then m else 0)) ∧
    (∀ j, i ≤ j → j + 1 < W.length → ent (pushTo m W l i) (W.getD j 0) (W.getD (j + 1) 0) = ent l (W.getD j 0) (W.getD (j + 1) 0) ∧ ent (pushTo m W l i) (W.getD (j + 1) 0) (W.getD j 0) = ent l (W.getD (j + 1) 0) (W.getD j 0))
  | 0, hi => ⟨h, fun x _ => by simp only [pushTo]; omega, fun j _ _ => ⟨rfl, rfl⟩⟩
  | i + 1, hi => by
    obtain ⟨h1, h2, h3⟩ := push_ok h hm hW hnd hroom i (by omega)
    have ha := hW i (by omega)
    have hb := hW (i + 1) hi
    have hab : W.getD i 0 ≠ W.getD (i + 1) 0 := fun e => by have := hnd i (i + 1) (by omega) hi e; omega
    obtain ⟨h4, h5⟩ := h3 i (Nat.le_refl _) hi
    have hr := hroom i hi
    unfold roomN at hr
    have en := pushE_ent m (pushTo m W l i) n (W.getD i 0) (W.getD (i + 1) 0) h1.len h1.row ha hb hab
    have l1 := h1.lo _ _ ha hb
    have l2 := h1.lo _ _ hb ha
    simp only [pushTo]
    refine ⟨⟨by rw [pushE_len]; exact h1.len, fun x hx => by rw [pushE_row _ _ _ _ (by rw [h1.len]; exact ha) (by rw [h1.len]; exact hb)]; exact h1.row x hx, fun x y hx hy => ?_⟩, fun x hx => ?_, fun j hj hj2 => ?_⟩
    · rw [en x y]
      by_cases c : x = W.getD i 0 ∧ y = W.getD (i + 1) 0
      · rw [if_pos c]
        obtain ⟨rfl, rfl⟩ := c
        rw [h4, h5] at *
        omega
      · rw [if_neg c]
        by_cases d : x = W.getD (i + 1) 0 ∧ y = W.getD i 0
        · rw [if_pos d]
          obtain ⟨rfl, rfl⟩ := d
          omega
        · rw [if_neg d]; exact h1.lo x y hx hy
    · rw [pushE_val m (pushTo m W l i) n _ _ h1.len h1.row ha hb hab x hx, h2 x hx]; omega
    · have n1 : W.getD j 0 ≠ W.getD i 0 := fun e => by have := hnd j i (by omega) (by omega) e; omega
      have n2 : W.getD (j + 1) 0 ≠ W.getD i 0 := fun e => by have := hnd (j + 1) i (by omega) (by omega) e; omega
      obtain ⟨g1, g2⟩ := h3 j (by omega) hj2
      rw [en, en, if_neg (fun z => n1 z.1), if_neg (fun z => n2 z.2), if_neg (fun z => n2 z.1), if_neg (fun z => n1 z.2)]
      exact ⟨g1, g2⟩
end Go.Proofs.Ytneojimdhnhkeaa.Pure
