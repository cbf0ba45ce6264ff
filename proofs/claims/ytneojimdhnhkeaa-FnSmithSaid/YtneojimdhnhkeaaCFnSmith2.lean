/- No order of families costs less than that by weight for each, and two that change places make a ring more or one less, for drawn families: no condition but the statement's own. -/
import Derived.Test.YtneojimdhnhkeaaCFnSmith0
import Derived.Test.YtneojimdhnhkeaaCFnSmith1
set_option linter.unusedVariables false
set_option linter.unusedSimpArgs false
namespace Go.Proofs.Ytneojimdhnhkeaa.Print
open Go.RowKit Go.Proofs.YtneojimdhnhkeaaW.PrintWords Go.Proofs.YtneojimdhnhkeaaW.PrintLast Go.Proofs.YtneojimdhnhkeaaW.PrintMore
attribute [local go_sem] max2_int min2_int max_two min_two max_three min_three max_four min_four

mutual
def laws_FnSmith.j0:Nat→List Int→List (S168)→Int→Bool→List Int→Bool→Bool→Option (Bool)
  |0,_,_,_,_,_,_,_=>none
  |k+1,x1,x5,x7,x8,x11,x12,x82=>if x82=true then (some false) else (if x12=true then ((impl_SmithCost.f k x5 x11).bind fun bt120=>(if bt120.2=true then (if x8=true then (if bt120.1 > x7 then (some false) else (laws_FnSmith.j1 k x1)) else (laws_FnSmith.j1 k x1)) else (some false))) else (laws_FnSmith.j1 k x1))
def laws_FnSmith.j1:Nat→List Int→Option (Bool)
  |0,_=>none
  |k+1,x1=>(spec_DrawIsOrder.f k x1).bind fun bt122=>((impl_IsOrder.f bt122.1 bt122.2).bind fun bt126=>((spec_IsOrder.f k bt122.1 bt122.2).bind fun bt128=>((spec_DrawCyclesIn.f k x1).bind fun t130=>((impl_CyclesIn.f k t130).bind fun bt133=>((spec_CyclesIn.f k t130).bind fun bt135=>(if (bt126.2 != bt128.2)=true then (laws_FnSmith.j2 k t130 bt133.1 bt133.2 true) else (if (bt126.1 != bt128.1)=true then (laws_FnSmith.j2 k t130 bt133.1 bt133.2 true) else (if (bt133.2 != bt135.2)=true then (laws_FnSmith.j2 k t130 bt133.1 bt133.2 true) else (laws_FnSmith.j2 k t130 bt133.1 bt133.2 (bt133.1 != bt135.1))))))))))
def laws_FnSmith.j2:Nat→List Int→Int→Bool→Bool→Option (Bool)
  |0,_,_,_,_=>none
  |k+1,x23,x24,x25,x146=>if x146=true then (some false) else (if x25=true then (if (x23.length:Int) > 1 then ((some (([]:List Int):List Int)).bind fun y137=>(if y137.length+x23.length<17592186044416 then ((some (y137 ++ x23:List Int)).bind fun y140=>(if 1<(x23.length:Int) then (if 0<(y140.length:Int) then (if 0<(x23.length:Int) then (if 1<(y140.length:Int) then ((impl_CyclesIn.f k ((y140.set (0:Int).toNat (rd x23 1)).set (1:Int).toNat (rd x23 0))).bind fun bt147=>(if bt147.2=true then (if bt147.1=(wrap64 (x24+1)) then (some true) else (some (bt147.1 == (wrap64 (x24 - 1))))) else (some false))) else (none)) else (none)) else (none)) else (none))) else (none))) else (some true)) else (some true))
end
def laws_FnSmith.f (k:Nat) (l0:List Int) (l1:List Int):Option (Bool):=if (wrap64 ((l0.length:Int)+(l1.length:Int))) > 1048576 then (some true) else ((spec_DrawSmithCost.f k l0).bind fun bt101=>((impl_SmithCost.f k bt101.1 bt101.2).bind fun bt107=>((spec_SmithCost.f k bt101.1 bt101.2).bind fun bt109=>((impl_SmithOrder.f k bt101.1).bind fun bt111=>((spec_SmithOrder.f k bt101.1).bind fun bt115=>(if (bt107.2 != bt109.2)=true then (laws_FnSmith.j0 k l1 bt101.1 bt107.1 bt107.2 bt111.1 bt111.2 true) else (if bt107.1=bt109.1 then (if (bt111.2 != bt115.2)=true then (laws_FnSmith.j0 k l1 bt101.1 bt107.1 bt107.2 bt111.1 bt111.2 true) else ((laws_sameInts.f k bt111.1 bt115.1).bind fun t119=>(laws_FnSmith.j0 k l1 bt101.1 bt107.1 bt107.2 bt111.1 bt111.2 (!t119)))) else (laws_FnSmith.j0 k l1 bt101.1 bt107.1 bt107.2 bt111.1 bt111.2 true))))))))
set_option maxHeartbeats 8000000 in
set_option maxRecDepth 100000 in
theorem laws_FnSmith.calls (k:Nat) (A0:Option Addr) (c0:Nat) (l0:List Int) (A1:Option Addr) (c1:Nat) (l1:List Int) (r:Bool) (w:World) (hr0:Kd.C (Kd.int .u8) w A0 l0.length l0) (hc0:l0.length≤c0) (hr1:Kd.C (Kd.int .u8) w A1 l1.length l1) (hc1:l1.length≤c1) (h:laws_FnSmith.f k l0 l1=some r) :
    Calls Try.prog 7 #[.slice A0 l0.length c0,.slice A1 l1.length c1] w fun e w'=>e= .returned (.bool r)∧Below w.heap.size w w':=by
  have HR0:=aM hr0;have HC0:=aM hc0;clear hr0 hc0;have HR1:=aM hr1;have HC1:=aM hc1;clear hr1 hc1;have HB:=aM (Below.refl w.heap.size w);have H:(if (wrap64 ((l0.length:Int)+(l1.length:Int))) > 1048576 then (some true) else ((spec_DrawSmithCost.f k l0).bind fun bt101=>((impl_SmithCost.f k bt101.1 bt101.2).bind fun bt107=>((spec_SmithCost.f k bt101.1 bt101.2).bind fun bt109=>((impl_SmithOrder.f k bt101.1).bind fun bt111=>((spec_SmithOrder.f k bt101.1).bind fun bt115=>(if (bt107.2 != bt109.2)=true then (laws_FnSmith.j0 k l1 bt101.1 bt107.1 bt107.2 bt111.1 bt111.2 true) else (if bt107.1=bt109.1 then (if (bt111.2 != bt115.2)=true then (laws_FnSmith.j0 k l1 bt101.1 bt107.1 bt107.2 bt111.1 bt111.2 true) else ((laws_sameInts.f k bt111.1 bt115.1).bind fun t119=>(laws_FnSmith.j0 k l1 bt101.1 bt107.1 bt107.2 bt111.1 bt111.2 (!t119)))) else (laws_FnSmith.j0 k l1 bt101.1 bt107.1 bt107.2 bt111.1 bt111.2 true)))))))))=some r:=h;clear h;by_cases c3:(wrap64 ((l0.length:Int)+(l1.length:Int))) > 1048576
  ·rw [if_pos c3] at H;have c3b0:decide (1048576<(wrap64 ((l0.length:Int)+(l1.length:Int))))=true:=decide_eq_true c3;clear c3
   as_aux_lemma=>
    obtain rfl:=Option.some.inj H;go_enter Try.func7,Try.ntmps7;go_wp2
    go_ret
    exact ⟨by first|rfl|(simp [errW_none,errW_some] <;> rfl)|(simp [*,errW_none,errW_some] <;> rfl),by repeat (first|(with_reducible first|exact HB.out|apply Qb|apply Qa|apply Qc)|exact HB.out)⟩
  ·rw [if_neg c3] at H;have c3b0:decide (1048576<(wrap64 ((l0.length:Int)+(l1.length:Int))))=false:=decide_eq_false c3;clear c3;replace H:=Option.bind_eq_some_iff.mp H;obtain ⟨⟨t101,t102⟩,A40,H⟩:=H;replace H:((impl_SmithCost.f k t101 t102).bind fun bt107=>((spec_SmithCost.f k t101 t102).bind fun bt109=>((impl_SmithOrder.f k t101).bind fun bt111=>((spec_SmithOrder.f k t101).bind fun bt115=>(if (bt107.2 != bt109.2)=true then (laws_FnSmith.j0 k l1 t101 bt107.1 bt107.2 bt111.1 bt111.2 true) else (if bt107.1=bt109.1 then (if (bt111.2 != bt115.2)=true then (laws_FnSmith.j0 k l1 t101 bt107.1 bt107.2 bt111.1 bt111.2 true) else ((laws_sameInts.f k bt111.1 bt115.1).bind fun t119=>(laws_FnSmith.j0 k l1 t101 bt107.1 bt107.2 bt111.1 bt111.2 (!t119)))) else (laws_FnSmith.j0 k l1 t101 bt107.1 bt107.2 bt111.1 bt111.2 true)))))))=some r:=H;have A4:=aM A40;clear A40;replace H:=Option.bind_eq_some_iff.mp H;obtain ⟨⟨t107,t108⟩,A50,H⟩:=H;replace H:((spec_SmithCost.f k t101 t102).bind fun bt109=>((impl_SmithOrder.f k t101).bind fun bt111=>((spec_SmithOrder.f k t101).bind fun bt115=>(if (t108 != bt109.2)=true then (laws_FnSmith.j0 k l1 t101 t107 t108 bt111.1 bt111.2 true) else (if t107=bt109.1 then (if (bt111.2 != bt115.2)=true then (laws_FnSmith.j0 k l1 t101 t107 t108 bt111.1 bt111.2 true) else ((laws_sameInts.f k bt111.1 bt115.1).bind fun t119=>(laws_FnSmith.j0 k l1 t101 t107 t108 bt111.1 bt111.2 (!t119)))) else (laws_FnSmith.j0 k l1 t101 t107 t108 bt111.1 bt111.2 true))))))=some r:=H;have A5:=aM A50;clear A50;replace H:=Option.bind_eq_some_iff.mp H;obtain ⟨⟨t109,t110⟩,A60,H⟩:=H;replace H:((impl_SmithOrder.f k t101).bind fun bt111=>((spec_SmithOrder.f k t101).bind fun bt115=>(if (t108 != t110)=true then (laws_FnSmith.j0 k l1 t101 t107 t108 bt111.1 bt111.2 true) else (if t107=t109 then (if (bt111.2 != bt115.2)=true then (laws_FnSmith.j0 k l1 t101 t107 t108 bt111.1 bt111.2 true) else ((laws_sameInts.f k bt111.1 bt115.1).bind fun t119=>(laws_FnSmith.j0 k l1 t101 t107 t108 bt111.1 bt111.2 (!t119)))) else (laws_FnSmith.j0 k l1 t101 t107 t108 bt111.1 bt111.2 true)))))=some r:=H;have A6:=aM A60;clear A60;replace H:=Option.bind_eq_some_iff.mp H;obtain ⟨⟨t111,t112⟩,A70,H⟩:=H;replace H:((spec_SmithOrder.f k t101).bind fun bt115=>(if (t108 != t110)=true then (laws_FnSmith.j0 k l1 t101 t107 t108 t111 t112 true) else (if t107=t109 then (if (t112 != bt115.2)=true then (laws_FnSmith.j0 k l1 t101 t107 t108 t111 t112 true) else ((laws_sameInts.f k t111 bt115.1).bind fun t119=>(laws_FnSmith.j0 k l1 t101 t107 t108 t111 t112 (!t119)))) else (laws_FnSmith.j0 k l1 t101 t107 t108 t111 t112 true))))=some r:=H;have A7:=aM A70;clear A70;replace H:=Option.bind_eq_some_iff.mp H;obtain ⟨⟨t115,t116⟩,A80,H⟩:=H;replace H:(if (t108 != t110)=true then (laws_FnSmith.j0 k l1 t101 t107 t108 t111 t112 true) else (if t107=t109 then (if (t112 != t116)=true then (laws_FnSmith.j0 k l1 t101 t107 t108 t111 t112 true) else ((laws_sameInts.f k t111 t115).bind fun t119=>(laws_FnSmith.j0 k l1 t101 t107 t108 t111 t112 (!t119)))) else (laws_FnSmith.j0 k l1 t101 t107 t108 t111 t112 true)))=some r:=H;have A8:=aM A80;clear A80;have HC9:=aM H;clear H;go_enter Try.func7,Try.ntmps7
   go_upto_region 8 with (first|((with_reducible refine Qh (f:=54) rfl ?_);refine goesL_ (some 39) rfl rfl Try.func54 (by kernel_rfl) rfl #[.slice A0 l0.length c0] rfl (by (try simp only [aD,aE,aF]);first|done|rfl|(simp only [aG,aH];rfl)) ?_;(with_reducible refine (spec_DrawSmithCost.calls k _ _ l0 t101 t102 _ ?side1 ?side2 A4.out).mono ?_);(case side1=>repeat (first|exact HR0.out|(with_reducible refine Kd.C_alloc ?_ _)|(with_reducible refine Kd.C_drewN ?_ _)|(with_reducible refine Kd.C_drew ?_)));(case side2=>exact HC0.out);rintro e w10 ⟨v103,v105,rfl,ho0,ho1,hb⟩;refine ⟨_,rfl,?_⟩;have n0_:=aM (Kd.R_lower ho0 (Qi (by repeat (first|(with_reducible first|exact HB.out|apply Qb|apply Qa|apply Qc)|exact HB.out))));have n1_:=aM (Kd.R_lower ho1 (Qi (by repeat (first|(with_reducible first|exact HB.out|apply Qb|apply Qa|apply Qc)|exact HB.out))));have n2_:=aM (Qj (by repeat (first|(with_reducible first|exact HB.out|apply Qb|apply Qa|apply Qc)|exact HB.out)) hb);clear HB;have HO104:=n0_;have HO106:=n1_;have HB:=n2_;clear n0_ n1_ n2_;(try clear hb);(try clear hb2);(try clear hk);(try clear hi);(try clear ho0);(try clear ho1);obtain ⟨Ao11,co11,eo11⟩:=Kd.R_slice HO104.out;subst eo11;obtain ⟨Ao12,co12,eo12⟩:=Kd.R_slice HO106.out;subst eo12)|((with_reducible refine Qh (f:=55) rfl ?_);refine goesL_ (some 45) rfl rfl Try.func55 (by kernel_rfl) rfl #[.slice Ao11 t101.length co11,.slice Ao12 t102.length co12] rfl (by (try simp only [aD,aE,aF]);first|done|rfl|(simp only [aG,aH];rfl)) ?_;(with_reducible refine (impl_SmithCost.calls k _ _ t101 _ _ t102 t107 t108 _ ?side1 ?side2 ?side3 ?side4 A5.out).mono ?_);(case side1=>repeat (first|exact (Kd.Qg HO104.out).2.2|(with_reducible refine Kd.C_alloc ?_ _)|(with_reducible refine Kd.C_drewN ?_ _)|(with_reducible refine Kd.C_drew ?_)));(case side2=>exact (Kd.Qg HO104.out).2.1);(case side3=>repeat (first|exact (Kd.Qg HO106.out).2.2|(with_reducible refine Kd.C_alloc ?_ _)|(with_reducible refine Kd.C_drewN ?_ _)|(with_reducible refine Kd.C_drew ?_)));(case side4=>exact (Kd.Qg HO106.out).2.1);rintro e w13 ⟨rfl,hb⟩;refine ⟨_,rfl,?_⟩;have n0_:=aM (Kd.R_below (by (with_reducible repeat (first|apply Kd.Qd|apply Kd.Qe|apply Kd.R_drew));exact HO104.out) hb);have n1_:=aM (Kd.R_below (by (with_reducible repeat (first|apply Kd.Qd|apply Kd.Qe|apply Kd.R_drew));exact HO106.out) hb);have n2_:=aM (Qj (by repeat (first|(with_reducible first|exact HB.out|apply Qb|apply Qa|apply Qc)|exact HB.out)) hb);clear HO104;clear HO106;clear HB;have HO104:=n0_;have HO106:=n1_;have HB:=n2_;clear n0_ n1_ n2_;(try clear hb);(try clear hb2);(try clear hk);(try clear hi))|((with_reducible refine Qh (f:=56) rfl ?_);refine goesL_ (some 51) rfl rfl Try.func56 (by kernel_rfl) rfl #[.slice Ao11 t101.length co11,.slice Ao12 t102.length co12] rfl (by (try simp only [aD,aE,aF]);first|done|rfl|(simp only [aG,aH];rfl)) ?_;(with_reducible refine (spec_SmithCost.calls k _ _ t101 _ _ t102 t109 t110 _ ?side1 ?side2 ?side3 ?side4 A6.out).mono ?_);(case side1=>repeat (first|exact (Kd.Qg HO104.out).2.2|(with_reducible refine Kd.C_alloc ?_ _)|(with_reducible refine Kd.C_drewN ?_ _)|(with_reducible refine Kd.C_drew ?_)));(case side2=>exact (Kd.Qg HO104.out).2.1);(case side3=>repeat (first|exact (Kd.Qg HO106.out).2.2|(with_reducible refine Kd.C_alloc ?_ _)|(with_reducible refine Kd.C_drewN ?_ _)|(with_reducible refine Kd.C_drew ?_)));(case side4=>exact (Kd.Qg HO106.out).2.1);rintro e w14 ⟨rfl,hb⟩;refine ⟨_,rfl,?_⟩;have n0_:=aM (Kd.R_below (by (with_reducible repeat (first|apply Kd.Qd|apply Kd.Qe|apply Kd.R_drew));exact HO104.out) hb);have n1_:=aM (Kd.R_below (by (with_reducible repeat (first|apply Kd.Qd|apply Kd.Qe|apply Kd.R_drew));exact HO106.out) hb);have n2_:=aM (Qj (by repeat (first|(with_reducible first|exact HB.out|apply Qb|apply Qa|apply Qc)|exact HB.out)) hb);clear HO104;clear HO106;clear HB;have HO104:=n0_;have HO106:=n1_;have HB:=n2_;clear n0_ n1_ n2_;(try clear hb);(try clear hb2);(try clear hk);(try clear hi))|((with_reducible refine Qh (f:=57) rfl ?_);refine goesL_ (some 56) rfl rfl Try.func57 (by kernel_rfl) rfl #[.slice Ao11 t101.length co11] rfl (by (try simp only [aD,aE,aF]);first|done|rfl|(simp only [aG,aH];rfl)) ?_;(with_reducible refine (impl_SmithOrder.calls k _ _ t101 t111 t112 _ ?side1 ?side2 A7.out).mono ?_);(case side1=>repeat (first|exact (Kd.Qg HO104.out).2.2|(with_reducible refine Kd.C_alloc ?_ _)|(with_reducible refine Kd.C_drewN ?_ _)|(with_reducible refine Kd.C_drew ?_)));(case side2=>exact (Kd.Qg HO104.out).2.1);rintro e w15 ⟨v113,rfl,ho0,hb⟩;refine ⟨_,rfl,?_⟩;have n0_:=aM (Kd.R_below (by (with_reducible repeat (first|apply Kd.Qd|apply Kd.Qe|apply Kd.R_drew));exact HO104.out) hb);have n1_:=aM (Kd.R_elder' (by (with_reducible repeat (first|apply Kd.Qd|apply Kd.Qe|apply Kd.R_drew));exact HO106.out) (Kd.R_base ho0) hb);have n2_:=aM (Kd.R_lower (Kd.R_new' ho0 (Kd.R_lt (by (with_reducible repeat (first|apply Kd.Qd|apply Kd.Qe|apply Kd.R_drew));exact HO106.out))) (Qi (by repeat (first|(with_reducible first|exact HB.out|apply Qb|apply Qa|apply Qc)|exact HB.out))));have n3_:=aM (Qj (by repeat (first|(with_reducible first|exact HB.out|apply Qb|apply Qa|apply Qc)|exact HB.out)) hb);clear HO104;clear HO106;clear HB;have HO104:=n0_;have HO106:=n1_;have HO114:=n2_;have HB:=n3_;clear n0_ n1_ n2_ n3_;(try clear hb);(try clear hb2);(try clear hk);(try clear hi);(try clear ho0))|((with_reducible refine Qh (f:=58) rfl ?_);refine goesL_ (some 61) rfl rfl Try.func58 (by kernel_rfl) rfl #[.slice Ao11 t101.length co11] rfl (by (try simp only [aD,aE,aF]);first|done|rfl|(simp only [aG,aH];rfl)) ?_;(with_reducible refine (spec_SmithOrder.calls k _ _ t101 t115 t116 _ ?side1 ?side2 A8.out).mono ?_);(case side1=>repeat (first|exact (Kd.Qg HO104.out).2.2|(with_reducible refine Kd.C_alloc ?_ _)|(with_reducible refine Kd.C_drewN ?_ _)|(with_reducible refine Kd.C_drew ?_)));(case side2=>exact (Kd.Qg HO104.out).2.1);rintro e w16 ⟨v117,rfl,ho0,hb⟩;refine ⟨_,rfl,?_⟩;have n0_:=aM (Kd.R_below (by (with_reducible repeat (first|apply Kd.Qd|apply Kd.Qe|apply Kd.R_drew));exact HO104.out) hb);have n1_:=aM (Kd.R_elder' (by (with_reducible repeat (first|apply Kd.Qd|apply Kd.Qe|apply Kd.R_drew));exact HO106.out) (Kd.R_base ho0) hb);have n2_:=aM (Kd.R_elder' (by (with_reducible repeat (first|apply Kd.Qd|apply Kd.Qe|apply Kd.R_drew));exact HO114.out) (Kd.R_base ho0) hb);have n3_:=aM (Kd.R_lower (Kd.R_new' (Kd.R_new' ho0 (Kd.R_lt (by (with_reducible repeat (first|apply Kd.Qd|apply Kd.Qe|apply Kd.R_drew));exact HO106.out))) (Kd.R_lt (by (with_reducible repeat (first|apply Kd.Qd|apply Kd.Qe|apply Kd.R_drew));exact HO114.out))) (Qi (by repeat (first|(with_reducible first|exact HB.out|apply Qb|apply Qa|apply Qc)|exact HB.out))));have n4_:=aM (Qj (by repeat (first|(with_reducible first|exact HB.out|apply Qb|apply Qa|apply Qc)|exact HB.out)) hb);clear HO104;clear HO106;clear HO114;clear HB;have HO104:=n0_;have HO106:=n1_;have HO114:=n2_;have HO118:=n3_;have HB:=n4_;clear n0_ n1_ n2_ n3_ n4_;(try clear hb);(try clear hb2);(try clear hk);(try clear hi);(try clear ho0)))
   (try simp only [Act.put,aA,aB,aC])
   go_cut [82] (fun v82 wc=>∃ (kq:Nat) (x82_8:Bool),v82= .bool x82_8∧Aside0 (laws_FnSmith.j0 kq l1 t101 t107 t108 t111 t112 x82_8=some r)∧Aside0 (kq≤k)∧Aside0 (Kd.R k168 168 wc w.heap.size (fun _=>True) (.slice Ao11 t101.length co11) t101)∧Aside0 (Kd.R (Kd.int .i64) 3 wc w.heap.size (fun _=>True) v113 t111)∧Aside0 (Below w.heap.size w wc))
   case first=>
    have H:=HC9.out;clear HC9;by_cases c17:(t108 != t110)=true
    ·rw [if_pos c17] at H;have c17b0:(t108 != t110)=true:=c17;(try (have c17b1:decide (t108=t110)=false:=by simpa using c17));(try (have c17b2:(t108 == t110)=false:=by simpa using c17));(try (have c17b3: ¬ (t108=t110):=by simpa using c17));clear c17
     (first|rw [c17b0]|(simp only [i64_w,i32_w];rw [c17b0])|skip)
     as_aux_lemma=>
      have H':=aM H;clear H;go_wp2
      go_meet
      case rel=>exact ⟨_,(true),(by first|rfl|(simp;done)|(simp [*];done)),H',⟨by first|omega|exact Nat.le_refl _⟩,⟨by (with_reducible repeat (first|apply Kd.Qd|apply Kd.Qe|apply Kd.R_drew));exact HO104.out⟩,⟨by (with_reducible repeat (first|apply Kd.Qd|apply Kd.Qe|apply Kd.R_drew));exact Kd.R_mono HO114.out (fun _ hk=>trivial)⟩,⟨by repeat (first|(with_reducible first|exact HB.out|apply Qb|apply Qa|apply Qc)|exact HB.out)⟩⟩
    ·rw [if_neg c17] at H;have c17b0:(t108 != t110)=false:=by simpa using c17
     (try (have c17b1:decide (t108=t110)=true:=by simpa using c17));(try (have c17b2:(t108 == t110)=true:=by simpa using c17));clear c17
     (first|rw [c17b0]|(simp only [i64_w,i32_w];rw [c17b0])|skip)
     by_cases c18:t107=t109
     ·rw [if_pos c18] at H;have c18b0:(t107 == t109)=true:=beq_iff_eq.mpr c18;have c18b1:(t107 != t109)=false:=bne_eq_false_iff_eq.mpr c18;clear c18;by_cases c19:(t112 != t116)=true
      ·rw [if_pos c19] at H;have c19b0:(t112 != t116)=true:=c19;(try (have c19b1:decide (t112=t116)=false:=by simpa using c19));(try (have c19b2:(t112 == t116)=false:=by simpa using c19));(try (have c19b3: ¬ (t112=t116):=by simpa using c19));clear c19
       as_aux_lemma=>
        have H':=aM H;clear H;go_wp2
        go_meet
        case rel=>exact ⟨_,(true),(by first|rfl|(simp;done)|(simp [*];done)),H',⟨by first|omega|exact Nat.le_refl _⟩,⟨by (with_reducible repeat (first|apply Kd.Qd|apply Kd.Qe|apply Kd.R_drew));exact HO104.out⟩,⟨by (with_reducible repeat (first|apply Kd.Qd|apply Kd.Qe|apply Kd.R_drew));exact Kd.R_mono HO114.out (fun _ hk=>trivial)⟩,⟨by repeat (first|(with_reducible first|exact HB.out|apply Qb|apply Qa|apply Qc)|exact HB.out)⟩⟩
      ·rw [if_neg c19] at H;have c19b0:(t112 != t116)=false:=by simpa using c19
       (try (have c19b1:decide (t112=t116)=true:=by simpa using c19));(try (have c19b2:(t112 == t116)=true:=by simpa using c19));clear c19;replace H:=Option.bind_eq_some_iff.mp H;obtain ⟨t119,A200,H⟩:=H;replace H:(laws_FnSmith.j0 k l1 t101 t107 t108 t111 t112 (!t119))=some r:=H;have A20:=aM A200;clear A200
       as_aux_lemma=>
        have H':=aM H;clear H;obtain ⟨Ao21,co21,eo21⟩:=Kd.R_slice HO114.out;subst eo21;obtain ⟨Ao22,co22,eo22⟩:=Kd.R_slice HO118.out;subst eo22;go_wp2_with (first|(go_at_call 28;(with_reducible refine (laws_sameInts.calls k _ _ t111 _ _ t115 t119 _ ?side1 ?side2 ?side3 ?side4 A20.out).mono ?_);(case side1=>repeat (first|exact (Kd.Qg HO114.out).2.2|(with_reducible refine Kd.C_alloc ?_ _)|(with_reducible refine Kd.C_drewN ?_ _)|(with_reducible refine Kd.C_drew ?_)));(case side2=>exact (Kd.Qg HO114.out).2.1);(case side3=>repeat (first|exact (Kd.Qg HO118.out).2.2|(with_reducible refine Kd.C_alloc ?_ _)|(with_reducible refine Kd.C_drewN ?_ _)|(with_reducible refine Kd.C_drew ?_)));(case side4=>exact (Kd.Qg HO118.out).2.1);rintro e w' ⟨rfl,⟨nd,rfl⟩⟩))
        go_meet
        case rel=>exact ⟨_,(!t119),(by first|rfl|(simp;done)|(simp [*];done)),H',⟨by first|omega|exact Nat.le_refl _⟩,⟨by (with_reducible repeat (first|apply Kd.Qd|apply Kd.Qe|apply Kd.R_drew));exact HO104.out⟩,⟨by (with_reducible repeat (first|apply Kd.Qd|apply Kd.Qe|apply Kd.R_drew));exact Kd.R_mono HO114.out (fun _ hk=>trivial)⟩,⟨by repeat (first|(with_reducible first|exact HB.out|apply Qb|apply Qa|apply Qc)|exact HB.out)⟩⟩
     ·rw [if_neg c18] at H;have c18b0:(t107 == t109)=false:=beq_eq_false_iff_ne.mpr c18;have c18b1:(t107 != t109)=true:=bne_iff_ne.mpr c18
      as_aux_lemma=>
       have H':=aM H;clear H;go_wp2
       go_meet
       case rel=>exact ⟨_,(true),(by first|rfl|(simp;done)|(simp [*];done)),H',⟨by first|omega|exact Nat.le_refl _⟩,⟨by (with_reducible repeat (first|apply Kd.Qd|apply Kd.Qe|apply Kd.R_drew));exact HO104.out⟩,⟨by (with_reducible repeat (first|apply Kd.Qd|apply Kd.Qe|apply Kd.R_drew));exact Kd.R_mono HO114.out (fun _ hk=>trivial)⟩,⟨by repeat (first|(with_reducible first|exact HB.out|apply Qb|apply Qa|apply Qc)|exact HB.out)⟩⟩
   case rest=>
    clear HC9;(try clear c1);(try clear p2);(try clear c3);(try clear c3b0);(try clear c5);(try clear p6);(try clear c7);(try clear c17);(try clear c17b0);(try clear c17b1);(try clear c17b2);(try clear c18);(try clear c18b0);(try clear c18b1);(try clear c19);(try clear c19b0);(try clear c19b1);(try clear c19b2);obtain ⟨kq,x82_8,rfl,HA,HJ8,HO_5,HO_11,HB⟩:=hcut
    cases kq with
    |zero=>exact absurd HA.out (by simp [laws_FnSmith.j0])
    |succ kj8=>
     have H:=HA.out;clear HA;simp only [laws_FnSmith.j0] at H;by_cases c23:x82_8=true
     ·subst c23;have H1:(some false)=some r:=by rw [if_pos rfl] at H;exact H
      clear H;have H:=H1;clear H1
      as_aux_lemma=>
       obtain rfl:=Option.some.inj H;go_wp2
       go_ret
       exact ⟨by first|rfl|(simp [errW_none,errW_some] <;> rfl)|(simp [*,errW_none,errW_some] <;> rfl),by repeat (first|(with_reducible first|exact HB.out|apply Qb|apply Qa|apply Qc)|exact HB.out)⟩
     ·replace c23:=Bool.eq_false_iff.mpr c23;subst c23;have H1:(if t112=true then ((impl_SmithCost.f kj8 t101 t111).bind fun bt120=>(if bt120.2=true then (if t108=true then (if bt120.1 > t107 then (some false) else (laws_FnSmith.j1 kj8 l1)) else (laws_FnSmith.j1 kj8 l1)) else (some false))) else (laws_FnSmith.j1 kj8 l1))=some r:=by rw [if_neg (show ¬ (false=true) by decide)] at H;exact H
      clear H;have H:=H1;clear H1;have HC24:=aM H;clear H
      go_upto_if 83 with (fail)
      go_cut [] (fun wc=>∃ (kq:Nat),Aside0 (laws_FnSmith.j1 kq l1=some r)∧Aside0 (kq≤kj8)∧Aside0 (Below w.heap.size w wc))
      case first=>
       have H:=HC24.out;clear HC24;by_cases c25:t112=true
       ·subst c25;have H1:((impl_SmithCost.f kj8 t101 t111).bind fun bt120=>(if bt120.2=true then (if t108=true then (if bt120.1 > t107 then (some false) else (laws_FnSmith.j1 kj8 l1)) else (laws_FnSmith.j1 kj8 l1)) else (some false)))=some r:=by rw [if_pos rfl] at H;exact H
        clear H;have H:=H1;clear H1;replace H:=Option.bind_eq_some_iff.mp H;obtain ⟨⟨t120,t121⟩,A260,H⟩:=H;replace H:(if t121=true then (if t108=true then (if t120 > t107 then (some false) else (laws_FnSmith.j1 kj8 l1)) else (laws_FnSmith.j1 kj8 l1)) else (some false))=some r:=H;have A26:=aM A260;clear A260;by_cases c27:t121=true
        ·subst c27;have H1:(if t108=true then (if t120 > t107 then (some false) else (laws_FnSmith.j1 kj8 l1)) else (laws_FnSmith.j1 kj8 l1))=some r:=by rw [if_pos rfl] at H;exact H
         clear H;have H:=H1;clear H1;by_cases c28:t108=true
         ·subst c28;have H1:(if t120 > t107 then (some false) else (laws_FnSmith.j1 kj8 l1))=some r:=by rw [if_pos rfl] at H;exact H
          clear H;have H:=H1;clear H1;by_cases c29:t120 > t107
          ·rw [if_pos c29] at H;have c29b0:decide (t107<t120)=true:=decide_eq_true c29;clear c29
           (first|rw [c29b0]|(simp only [i64_w,i32_w];rw [c29b0])|skip)
           as_aux_lemma=>
            obtain rfl:=Option.some.inj H;obtain ⟨Ao30,co30,eo30⟩:=Kd.R_slice HO_11.out;subst eo30;go_wp2_with (first|((with_reducible refine Qh (f:=55) rfl ?_);refine goesL_ (some 87) rfl rfl Try.func55 (by kernel_rfl) rfl #[.slice Ao11 t101.length co11,.slice Ao30 t111.length co30] rfl (by (try simp only [aD,aE,aF]);first|done|rfl|(simp only [aG,aH];rfl)) ?_;(with_reducible refine (impl_SmithCost.calls kj8 _ _ t101 _ _ t111 t120 true _ ?side1 ?side2 ?side3 ?side4 A26.out).mono ?_);(case side1=>repeat (first|exact (Kd.Qg HO_5.out).2.2|(with_reducible refine Kd.C_alloc ?_ _)|(with_reducible refine Kd.C_drewN ?_ _)|(with_reducible refine Kd.C_drew ?_)));(case side2=>exact (Kd.Qg HO_5.out).2.1);(case side3=>repeat (first|exact (Kd.Qg HO_11.out).2.2|(with_reducible refine Kd.C_alloc ?_ _)|(with_reducible refine Kd.C_drewN ?_ _)|(with_reducible refine Kd.C_drew ?_)));(case side4=>exact (Kd.Qg HO_11.out).2.1);rintro e w31 ⟨rfl,hb⟩;refine ⟨_,rfl,?_⟩;have n0_:=aM (Kd.R_below (by (with_reducible repeat (first|apply Kd.Qd|apply Kd.Qe|apply Kd.R_drew));exact HO_5.out) hb);have n1_:=aM (Kd.R_below (by (with_reducible repeat (first|apply Kd.Qd|apply Kd.Qe|apply Kd.R_drew));exact HO_11.out) hb);have n2_:=aM (Qj (by repeat (first|(with_reducible first|exact HB.out|apply Qb|apply Qa|apply Qc)|exact HB.out)) hb);clear HO_5;clear HO_11;clear HB;have HO_5:=n0_;have HO_11:=n1_;have HB:=n2_;clear n0_ n1_ n2_;(try clear hb);(try clear hb2);(try clear hk);(try clear hi)))
            go_ret
            exact ⟨by first|rfl|(simp [errW_none,errW_some] <;> rfl)|(simp [*,errW_none,errW_some] <;> rfl),by repeat (first|(with_reducible first|exact HB.out|apply Qb|apply Qa|apply Qc)|exact HB.out)⟩
          ·rw [if_neg c29] at H;have c29b0:decide (t107<t120)=false:=decide_eq_false c29;clear c29
           (first|rw [c29b0]|(simp only [i64_w,i32_w];rw [c29b0])|skip)
           as_aux_lemma=>
            have H':=aM H;clear H;obtain ⟨Ao32,co32,eo32⟩:=Kd.R_slice HO_11.out;subst eo32;go_wp2_with (first|((with_reducible refine Qh (f:=55) rfl ?_);refine goesL_ (some 87) rfl rfl Try.func55 (by kernel_rfl) rfl #[.slice Ao11 t101.length co11,.slice Ao32 t111.length co32] rfl (by (try simp only [aD,aE,aF]);first|done|rfl|(simp only [aG,aH];rfl)) ?_;(with_reducible refine (impl_SmithCost.calls kj8 _ _ t101 _ _ t111 t120 true _ ?side1 ?side2 ?side3 ?side4 A26.out).mono ?_);(case side1=>repeat (first|exact (Kd.Qg HO_5.out).2.2|(with_reducible refine Kd.C_alloc ?_ _)|(with_reducible refine Kd.C_drewN ?_ _)|(with_reducible refine Kd.C_drew ?_)));(case side2=>exact (Kd.Qg HO_5.out).2.1);(case side3=>repeat (first|exact (Kd.Qg HO_11.out).2.2|(with_reducible refine Kd.C_alloc ?_ _)|(with_reducible refine Kd.C_drewN ?_ _)|(with_reducible refine Kd.C_drew ?_)));(case side4=>exact (Kd.Qg HO_11.out).2.1);rintro e w33 ⟨rfl,hb⟩;refine ⟨_,rfl,?_⟩;have n0_:=aM (Kd.R_below (by (with_reducible repeat (first|apply Kd.Qd|apply Kd.Qe|apply Kd.R_drew));exact HO_5.out) hb);have n1_:=aM (Kd.R_below (by (with_reducible repeat (first|apply Kd.Qd|apply Kd.Qe|apply Kd.R_drew));exact HO_11.out) hb);have n2_:=aM (Qj (by repeat (first|(with_reducible first|exact HB.out|apply Qb|apply Qa|apply Qc)|exact HB.out)) hb);clear HO_5;clear HO_11;clear HB;have HO_5:=n0_;have HO_11:=n1_;have HB:=n2_;clear n0_ n1_ n2_;(try clear hb);(try clear hb2);(try clear hk);(try clear hi)))
            go_meet
            case rel=>exact ⟨_,H',⟨by have:=HJ8.out;first|omega|exact Nat.le_refl _⟩,⟨by repeat (first|(with_reducible first|exact HB.out|apply Qb|apply Qa|apply Qc)|exact HB.out)⟩⟩
         ·replace c28:=Bool.eq_false_iff.mpr c28;subst c28;have H1:(laws_FnSmith.j1 kj8 l1)=some r:=by rw [if_neg (show ¬ (false=true) by decide)] at H;exact H
          clear H;have H:=H1;clear H1
          as_aux_lemma=>
           have H':=aM H;clear H;obtain ⟨Ao34,co34,eo34⟩:=Kd.R_slice HO_11.out;subst eo34;go_wp2_with (first|((with_reducible refine Qh (f:=55) rfl ?_);refine goesL_ (some 87) rfl rfl Try.func55 (by kernel_rfl) rfl #[.slice Ao11 t101.length co11,.slice Ao34 t111.length co34] rfl (by (try simp only [aD,aE,aF]);first|done|rfl|(simp only [aG,aH];rfl)) ?_;(with_reducible refine (impl_SmithCost.calls kj8 _ _ t101 _ _ t111 t120 true _ ?side1 ?side2 ?side3 ?side4 A26.out).mono ?_);(case side1=>repeat (first|exact (Kd.Qg HO_5.out).2.2|(with_reducible refine Kd.C_alloc ?_ _)|(with_reducible refine Kd.C_drewN ?_ _)|(with_reducible refine Kd.C_drew ?_)));(case side2=>exact (Kd.Qg HO_5.out).2.1);(case side3=>repeat (first|exact (Kd.Qg HO_11.out).2.2|(with_reducible refine Kd.C_alloc ?_ _)|(with_reducible refine Kd.C_drewN ?_ _)|(with_reducible refine Kd.C_drew ?_)));(case side4=>exact (Kd.Qg HO_11.out).2.1);rintro e w35 ⟨rfl,hb⟩;refine ⟨_,rfl,?_⟩;have n0_:=aM (Kd.R_below (by (with_reducible repeat (first|apply Kd.Qd|apply Kd.Qe|apply Kd.R_drew));exact HO_5.out) hb);have n1_:=aM (Kd.R_below (by (with_reducible repeat (first|apply Kd.Qd|apply Kd.Qe|apply Kd.R_drew));exact HO_11.out) hb);have n2_:=aM (Qj (by repeat (first|(with_reducible first|exact HB.out|apply Qb|apply Qa|apply Qc)|exact HB.out)) hb);clear HO_5;clear HO_11;clear HB;have HO_5:=n0_;have HO_11:=n1_;have HB:=n2_;clear n0_ n1_ n2_;(try clear hb);(try clear hb2);(try clear hk);(try clear hi)))
           go_meet
           case rel=>exact ⟨_,H',⟨by have:=HJ8.out;first|omega|exact Nat.le_refl _⟩,⟨by repeat (first|(with_reducible first|exact HB.out|apply Qb|apply Qa|apply Qc)|exact HB.out)⟩⟩
        ·replace c27:=Bool.eq_false_iff.mpr c27;subst c27;have H1:(some false)=some r:=by rw [if_neg (show ¬ (false=true) by decide)] at H;exact H
         clear H;have H:=H1;clear H1
         as_aux_lemma=>
          obtain rfl:=Option.some.inj H;obtain ⟨Ao36,co36,eo36⟩:=Kd.R_slice HO_11.out;subst eo36;go_wp2_with (first|((with_reducible refine Qh (f:=55) rfl ?_);refine goesL_ (some 87) rfl rfl Try.func55 (by kernel_rfl) rfl #[.slice Ao11 t101.length co11,.slice Ao36 t111.length co36] rfl (by (try simp only [aD,aE,aF]);first|done|rfl|(simp only [aG,aH];rfl)) ?_;(with_reducible refine (impl_SmithCost.calls kj8 _ _ t101 _ _ t111 t120 false _ ?side1 ?side2 ?side3 ?side4 A26.out).mono ?_);(case side1=>repeat (first|exact (Kd.Qg HO_5.out).2.2|(with_reducible refine Kd.C_alloc ?_ _)|(with_reducible refine Kd.C_drewN ?_ _)|(with_reducible refine Kd.C_drew ?_)));(case side2=>exact (Kd.Qg HO_5.out).2.1);(case side3=>repeat (first|exact (Kd.Qg HO_11.out).2.2|(with_reducible refine Kd.C_alloc ?_ _)|(with_reducible refine Kd.C_drewN ?_ _)|(with_reducible refine Kd.C_drew ?_)));(case side4=>exact (Kd.Qg HO_11.out).2.1);rintro e w37 ⟨rfl,hb⟩;refine ⟨_,rfl,?_⟩;have n0_:=aM (Kd.R_below (by (with_reducible repeat (first|apply Kd.Qd|apply Kd.Qe|apply Kd.R_drew));exact HO_5.out) hb);have n1_:=aM (Kd.R_below (by (with_reducible repeat (first|apply Kd.Qd|apply Kd.Qe|apply Kd.R_drew));exact HO_11.out) hb);have n2_:=aM (Qj (by repeat (first|(with_reducible first|exact HB.out|apply Qb|apply Qa|apply Qc)|exact HB.out)) hb);clear HO_5;clear HO_11;clear HB;have HO_5:=n0_;have HO_11:=n1_;have HB:=n2_;clear n0_ n1_ n2_;(try clear hb);(try clear hb2);(try clear hk);(try clear hi)))
          go_ret
          exact ⟨by first|rfl|(simp [errW_none,errW_some] <;> rfl)|(simp [*,errW_none,errW_some] <;> rfl),by repeat (first|(with_reducible first|exact HB.out|apply Qb|apply Qa|apply Qc)|exact HB.out)⟩
       ·replace c25:=Bool.eq_false_iff.mpr c25;subst c25;have H1:(laws_FnSmith.j1 kj8 l1)=some r:=by rw [if_neg (show ¬ (false=true) by decide)] at H;exact H
        clear H;have H:=H1;clear H1
        as_aux_lemma=>
         have H':=aM H;clear H;go_wp2
         go_meet
         case rel=>exact ⟨_,H',⟨by have:=HJ8.out;first|omega|exact Nat.le_refl _⟩,⟨by repeat (first|(with_reducible first|exact HB.out|apply Qb|apply Qa|apply Qc)|exact HB.out)⟩⟩
      case rest=>
       clear HC24;(try clear c1);(try clear c2);(try clear p2);(try clear c3);(try clear c3b0);(try clear c5);(try clear p6);(try clear c7);(try clear c17);(try clear c17b0);(try clear c17b1);(try clear c17b2);(try clear c18);(try clear c18b0);(try clear c18b1);(try clear c19);(try clear c19b0);(try clear c19b1);(try clear c19b2);(try clear c23);(try clear c25);(try clear c27);(try clear c28);(try clear c29);(try clear c29b0);(try clear p2);(try clear p6);obtain ⟨kq,HA,HJ23,HB⟩:=hcut
       cases kq with
       |zero=>exact absurd HA.out (by simp [laws_FnSmith.j1])
       |succ kj23=>
        have H:=HA.out;clear HA;simp only [laws_FnSmith.j1] at H;replace H:=Option.bind_eq_some_iff.mp H;obtain ⟨⟨t122,t123⟩,A380,H⟩:=H;replace H:((impl_IsOrder.f t122 t123).bind fun bt126=>((spec_IsOrder.f kj23 t122 t123).bind fun bt128=>((spec_DrawCyclesIn.f kj23 l1).bind fun t130=>((impl_CyclesIn.f kj23 t130).bind fun bt133=>((spec_CyclesIn.f kj23 t130).bind fun bt135=>(if (bt126.2 != bt128.2)=true then (laws_FnSmith.j2 kj23 t130 bt133.1 bt133.2 true) else (if (bt126.1 != bt128.1)=true then (laws_FnSmith.j2 kj23 t130 bt133.1 bt133.2 true) else (if (bt133.2 != bt135.2)=true then (laws_FnSmith.j2 kj23 t130 bt133.1 bt133.2 true) else (laws_FnSmith.j2 kj23 t130 bt133.1 bt133.2 (bt133.1 != bt135.1))))))))))=some r:=H;have A38:=aM A380;clear A380;replace H:=Option.bind_eq_some_iff.mp H;obtain ⟨⟨t126,t127⟩,A390,H⟩:=H;replace H:((spec_IsOrder.f kj23 t122 t123).bind fun bt128=>((spec_DrawCyclesIn.f kj23 l1).bind fun t130=>((impl_CyclesIn.f kj23 t130).bind fun bt133=>((spec_CyclesIn.f kj23 t130).bind fun bt135=>(if (t127 != bt128.2)=true then (laws_FnSmith.j2 kj23 t130 bt133.1 bt133.2 true) else (if (t126 != bt128.1)=true then (laws_FnSmith.j2 kj23 t130 bt133.1 bt133.2 true) else (if (bt133.2 != bt135.2)=true then (laws_FnSmith.j2 kj23 t130 bt133.1 bt133.2 true) else (laws_FnSmith.j2 kj23 t130 bt133.1 bt133.2 (bt133.1 != bt135.1)))))))))=some r:=H;have A39:=aM A390;clear A390;replace H:=Option.bind_eq_some_iff.mp H;obtain ⟨⟨t128,t129⟩,A400,H⟩:=H;replace H:((spec_DrawCyclesIn.f kj23 l1).bind fun t130=>((impl_CyclesIn.f kj23 t130).bind fun bt133=>((spec_CyclesIn.f kj23 t130).bind fun bt135=>(if (t127 != t129)=true then (laws_FnSmith.j2 kj23 t130 bt133.1 bt133.2 true) else (if (t126 != t128)=true then (laws_FnSmith.j2 kj23 t130 bt133.1 bt133.2 true) else (if (bt133.2 != bt135.2)=true then (laws_FnSmith.j2 kj23 t130 bt133.1 bt133.2 true) else (laws_FnSmith.j2 kj23 t130 bt133.1 bt133.2 (bt133.1 != bt135.1))))))))=some r:=H;have A40:=aM A400;clear A400;replace H:=Option.bind_eq_some_iff.mp H;obtain ⟨t130,A410,H⟩:=H;replace H:((impl_CyclesIn.f kj23 t130).bind fun bt133=>((spec_CyclesIn.f kj23 t130).bind fun bt135=>(if (t127 != t129)=true then (laws_FnSmith.j2 kj23 t130 bt133.1 bt133.2 true) else (if (t126 != t128)=true then (laws_FnSmith.j2 kj23 t130 bt133.1 bt133.2 true) else (if (bt133.2 != bt135.2)=true then (laws_FnSmith.j2 kj23 t130 bt133.1 bt133.2 true) else (laws_FnSmith.j2 kj23 t130 bt133.1 bt133.2 (bt133.1 != bt135.1)))))))=some r:=H;have A41:=aM A410;clear A410;replace H:=Option.bind_eq_some_iff.mp H;obtain ⟨⟨t133,t134⟩,A420,H⟩:=H;replace H:((spec_CyclesIn.f kj23 t130).bind fun bt135=>(if (t127 != t129)=true then (laws_FnSmith.j2 kj23 t130 t133 t134 true) else (if (t126 != t128)=true then (laws_FnSmith.j2 kj23 t130 t133 t134 true) else (if (t134 != bt135.2)=true then (laws_FnSmith.j2 kj23 t130 t133 t134 true) else (laws_FnSmith.j2 kj23 t130 t133 t134 (t133 != bt135.1))))))=some r:=H;have A42:=aM A420;clear A420;replace H:=Option.bind_eq_some_iff.mp H;obtain ⟨⟨t135,t136⟩,A430,H⟩:=H;replace H:(if (t127 != t129)=true then (laws_FnSmith.j2 kj23 t130 t133 t134 true) else (if (t126 != t128)=true then (laws_FnSmith.j2 kj23 t130 t133 t134 true) else (if (t134 != t136)=true then (laws_FnSmith.j2 kj23 t130 t133 t134 true) else (laws_FnSmith.j2 kj23 t130 t133 t134 (t133 != t135)))))=some r:=H;have A43:=aM A430;clear A430;have HC44:=aM H;clear H
        go_upto_region 20 with (first|((with_reducible refine Qh (f:=59) rfl ?_);refine goesL_ (some 102) rfl rfl Try.func59 (by kernel_rfl) rfl #[.slice A1 l1.length c1] rfl (by (try simp only [aD,aE,aF]);first|done|rfl|(simp only [aG,aH];rfl)) ?_;(with_reducible refine (spec_DrawIsOrder.calls kj23 _ _ l1 t122 t123 _ ?side1 ?side2 A38.out).mono ?_);(case side1=>repeat (first|exact (Kd.C_below HR1.out HB.out)|(with_reducible refine Kd.C_alloc ?_ _)|(with_reducible refine Kd.C_drewN ?_ _)|(with_reducible refine Kd.C_drew ?_)));(case side2=>exact HC1.out);rintro e w45 ⟨v124,rfl,ho0,hb⟩;refine ⟨_,rfl,?_⟩;have n0_:=aM (Kd.R_lower ho0 (Qi (by repeat (first|(with_reducible first|exact HB.out|apply Qb|apply Qa|apply Qc)|exact HB.out))));have n1_:=aM (Qj (by repeat (first|(with_reducible first|exact HB.out|apply Qb|apply Qa|apply Qc)|exact HB.out)) hb);clear HB;have HO125:=n0_;have HB:=n1_;clear n0_ n1_;(try clear hb);(try clear hb2);(try clear hk);(try clear hi);(try clear ho0);obtain ⟨Ao46,co46,eo46⟩:=Kd.R_slice HO125.out;subst eo46)|((with_reducible refine Qh (f:=60) rfl ?_);refine goesL_ (some 108) rfl rfl Try.func60 (by kernel_rfl) rfl #[.slice Ao46 t122.length co46,.int .i64 t123] rfl (by (try simp only [aD,aE,aF]);first|done|rfl|(simp only [aG,aH];rfl)) ?_;(with_reducible refine (impl_IsOrder.calls _ _ t122 t123 t126 t127 _ ?side1 ?side2 A39.out).mono ?_);(case side1=>repeat (first|exact (Kd.Qg HO125.out).2.2|(with_reducible refine Kd.C_alloc ?_ _)|(with_reducible refine Kd.C_drewN ?_ _)|(with_reducible refine Kd.C_drew ?_)));(case side2=>exact (Kd.Qg HO125.out).2.1);rintro e w47 ⟨rfl,hb⟩;refine ⟨_,rfl,?_⟩;have n0_:=aM (Kd.R_below (by (with_reducible repeat (first|apply Kd.Qd|apply Kd.Qe|apply Kd.R_drew));exact HO125.out) hb);have n1_:=aM (Qj (by repeat (first|(with_reducible first|exact HB.out|apply Qb|apply Qa|apply Qc)|exact HB.out)) hb);clear HO125;clear HB;have HO125:=n0_;have HB:=n1_;clear n0_ n1_;(try clear hb);(try clear hb2);(try clear hk);(try clear hi))|((with_reducible refine Qh (f:=61) rfl ?_);refine goesL_ (some 114) rfl rfl Try.func61 (by kernel_rfl) rfl #[.slice Ao46 t122.length co46,.int .i64 t123] rfl (by (try simp only [aD,aE,aF]);first|done|rfl|(simp only [aG,aH];rfl)) ?_;(with_reducible refine (spec_IsOrder.calls kj23 _ _ t122 t123 t128 t129 _ ?side1 ?side2 A40.out).mono ?_);(case side1=>repeat (first|exact (Kd.Qg HO125.out).2.2|(with_reducible refine Kd.C_alloc ?_ _)|(with_reducible refine Kd.C_drewN ?_ _)|(with_reducible refine Kd.C_drew ?_)));(case side2=>exact (Kd.Qg HO125.out).2.1);rintro e w' ⟨rfl,⟨nd,rfl⟩⟩;refine ⟨_,rfl,?_⟩)|((with_reducible refine Qh (f:=62) rfl ?_);refine goesL_ (some 118) rfl rfl Try.func62 (by kernel_rfl) rfl #[.slice A1 l1.length c1] rfl (by (try simp only [aD,aE,aF]);first|done|rfl|(simp only [aG,aH];rfl)) ?_;(with_reducible refine (spec_DrawCyclesIn.calls kj23 _ _ l1 t130 _ ?side1 ?side2 A41.out).mono ?_);(case side1=>repeat (first|exact (Kd.C_below HR1.out (by repeat (first|(with_reducible first|exact HB.out|apply Qb|apply Qa|apply Qc)|exact HB.out)))|(with_reducible refine Kd.C_alloc ?_ _)|(with_reducible refine Kd.C_drewN ?_ _)|(with_reducible refine Kd.C_drew ?_)));(case side2=>exact HC1.out);rintro e w48 ⟨v131,rfl,ho0,hb⟩;refine ⟨_,rfl,?_⟩;have n0_:=aM (Kd.R_elder' (by (with_reducible repeat (first|apply Kd.Qd|apply Kd.Qe|apply Kd.R_drew));exact HO125.out) (Kd.R_base ho0) hb);have n1_:=aM (Kd.R_lower (Kd.R_new' ho0 (Kd.R_lt (by (with_reducible repeat (first|apply Kd.Qd|apply Kd.Qe|apply Kd.R_drew));exact HO125.out))) (Qi (by repeat (first|(with_reducible first|exact HB.out|apply Qb|apply Qa|apply Qc)|exact HB.out))));have n2_:=aM (Qj (by repeat (first|(with_reducible first|exact HB.out|apply Qb|apply Qa|apply Qc)|exact HB.out)) hb);clear HO125;clear HB;have HO125:=n0_;have HO132:=n1_;have HB:=n2_;clear n0_ n1_ n2_;(try clear hb);(try clear hb2);(try clear hk);(try clear hi);(try clear ho0);obtain ⟨Ao49,co49,eo49⟩:=Kd.R_slice HO132.out;subst eo49)|((with_reducible refine Qh (f:=63) rfl ?_);refine goesL_ (some 121) rfl rfl Try.func63 (by kernel_rfl) rfl #[.slice Ao49 t130.length co49] rfl (by (try simp only [aD,aE,aF]);first|done|rfl|(simp only [aG,aH];rfl)) ?_;(with_reducible refine (impl_CyclesIn.calls kj23 _ _ t130 t133 t134 _ ?side1 ?side2 A42.out).mono ?_);(case side1=>repeat (first|exact (Kd.Qg HO132.out).2.2|(with_reducible refine Kd.C_alloc ?_ _)|(with_reducible refine Kd.C_drewN ?_ _)|(with_reducible refine Kd.C_drew ?_)));(case side2=>exact (Kd.Qg HO132.out).2.1);rintro e w50 ⟨rfl,hb⟩;refine ⟨_,rfl,?_⟩;have n0_:=aM (Kd.R_below (by (with_reducible repeat (first|apply Kd.Qd|apply Kd.Qe|apply Kd.R_drew));exact HO125.out) hb);have n1_:=aM (Kd.R_below (by (with_reducible repeat (first|apply Kd.Qd|apply Kd.Qe|apply Kd.R_drew));exact HO132.out) hb);have n2_:=aM (Qj (by repeat (first|(with_reducible first|exact HB.out|apply Qb|apply Qa|apply Qc)|exact HB.out)) hb);clear HO125;clear HO132;clear HB;have HO125:=n0_;have HO132:=n1_;have HB:=n2_;clear n0_ n1_ n2_;(try clear hb);(try clear hb2);(try clear hk);(try clear hi))|((with_reducible refine Qh (f:=64) rfl ?_);refine goesL_ (some 126) rfl rfl Try.func64 (by kernel_rfl) rfl #[.slice Ao49 t130.length co49] rfl (by (try simp only [aD,aE,aF]);first|done|rfl|(simp only [aG,aH];rfl)) ?_;(with_reducible refine (spec_CyclesIn.calls kj23 _ _ t130 t135 t136 _ ?side1 ?side2 A43.out).mono ?_);(case side1=>repeat (first|exact (Kd.Qg HO132.out).2.2|(with_reducible refine Kd.C_alloc ?_ _)|(with_reducible refine Kd.C_drewN ?_ _)|(with_reducible refine Kd.C_drew ?_)));(case side2=>exact (Kd.Qg HO132.out).2.1);rintro e w51 ⟨rfl,hb⟩;refine ⟨_,rfl,?_⟩;have n0_:=aM (Kd.R_below (by (with_reducible repeat (first|apply Kd.Qd|apply Kd.Qe|apply Kd.R_drew));exact HO125.out) hb);have n1_:=aM (Kd.R_below (by (with_reducible repeat (first|apply Kd.Qd|apply Kd.Qe|apply Kd.R_drew));exact HO132.out) hb);have n2_:=aM (Qj (by repeat (first|(with_reducible first|exact HB.out|apply Qb|apply Qa|apply Qc)|exact HB.out)) hb);clear HO125;clear HO132;clear HB;have HO125:=n0_;have HO132:=n1_;have HB:=n2_;clear n0_ n1_ n2_;(try clear hb);(try clear hb2);(try clear hk);(try clear hi)))
        (try simp only [Act.put,aA,aB,aC])
        go_cut [146] (fun v146 wc=>∃ (kq:Nat) (x146_43:Bool),v146= .bool x146_43∧Aside0 (laws_FnSmith.j2 kq t130 t133 t134 x146_43=some r)∧Aside0 (kq≤kj23)∧Aside0 (Kd.R (Kd.int .i64) 3 wc w.heap.size (fun _=>True) (.slice Ao49 t130.length co49) t130)∧Aside0 (Below w.heap.size w wc))
        case first=>
         have H:=HC44.out;clear HC44;by_cases c52:(t127 != t129)=true
         ·rw [if_pos c52] at H;have c52b0:(t127 != t129)=true:=c52;(try (have c52b1:decide (t127=t129)=false:=by simpa using c52));(try (have c52b2:(t127 == t129)=false:=by simpa using c52));(try (have c52b3: ¬ (t127=t129):=by simpa using c52));clear c52
          (first|rw [c52b0]|(simp only [i64_w,i32_w];rw [c52b0])|skip)
          as_aux_lemma=>
           have H':=aM H;clear H;go_wp2
           go_meet
           case rel=>exact ⟨_,(true),(by first|rfl|(simp;done)|(simp [*];done)),H',⟨by have:=HJ8.out;have:=HJ23.out;first|omega|exact Nat.le_refl _⟩,⟨by (with_reducible repeat (first|apply Kd.Qd|apply Kd.Qe|apply Kd.R_drew));exact Kd.R_mono HO132.out (fun _ hk=>trivial)⟩,⟨by repeat (first|(with_reducible first|exact HB.out|apply Qb|apply Qa|apply Qc)|exact HB.out)⟩⟩
         ·rw [if_neg c52] at H;have c52b0:(t127 != t129)=false:=by simpa using c52
          (try (have c52b1:decide (t127=t129)=true:=by simpa using c52));(try (have c52b2:(t127 == t129)=true:=by simpa using c52));clear c52
          (first|rw [c52b0]|(simp only [i64_w,i32_w];rw [c52b0])|skip)
          by_cases c53:(t126 != t128)=true
          ·rw [if_pos c53] at H;have c53b0:(t126 != t128)=true:=c53;(try (have c53b1:decide (t126=t128)=false:=by simpa using c53));(try (have c53b2:(t126 == t128)=false:=by simpa using c53));(try (have c53b3: ¬ (t126=t128):=by simpa using c53));clear c53
           as_aux_lemma=>
            have H':=aM H;clear H;go_wp2
            go_meet
            case rel=>exact ⟨_,(true),(by first|rfl|(simp;done)|(simp [*];done)),H',⟨by have:=HJ8.out;have:=HJ23.out;first|omega|exact Nat.le_refl _⟩,⟨by (with_reducible repeat (first|apply Kd.Qd|apply Kd.Qe|apply Kd.R_drew));exact Kd.R_mono HO132.out (fun _ hk=>trivial)⟩,⟨by repeat (first|(with_reducible first|exact HB.out|apply Qb|apply Qa|apply Qc)|exact HB.out)⟩⟩
          ·rw [if_neg c53] at H;have c53b0:(t126 != t128)=false:=by simpa using c53
           (try (have c53b1:decide (t126=t128)=true:=by simpa using c53));(try (have c53b2:(t126 == t128)=true:=by simpa using c53));clear c53;by_cases c54:(t134 != t136)=true
           ·rw [if_pos c54] at H;have c54b0:(t134 != t136)=true:=c54;(try (have c54b1:decide (t134=t136)=false:=by simpa using c54));(try (have c54b2:(t134 == t136)=false:=by simpa using c54));(try (have c54b3: ¬ (t134=t136):=by simpa using c54));clear c54
            as_aux_lemma=>
             have H':=aM H;clear H;go_wp2
             go_meet
             case rel=>exact ⟨_,(true),(by first|rfl|(simp;done)|(simp [*];done)),H',⟨by have:=HJ8.out;have:=HJ23.out;first|omega|exact Nat.le_refl _⟩,⟨by (with_reducible repeat (first|apply Kd.Qd|apply Kd.Qe|apply Kd.R_drew));exact Kd.R_mono HO132.out (fun _ hk=>trivial)⟩,⟨by repeat (first|(with_reducible first|exact HB.out|apply Qb|apply Qa|apply Qc)|exact HB.out)⟩⟩
           ·rw [if_neg c54] at H;have c54b0:(t134 != t136)=false:=by simpa using c54
            (try (have c54b1:decide (t134=t136)=true:=by simpa using c54));(try (have c54b2:(t134 == t136)=true:=by simpa using c54));clear c54
            as_aux_lemma=>
             have H':=aM H;clear H;go_wp2
             go_meet
             case rel=>exact ⟨_,((t133 != t135)),(by first|rfl|(simp;done)|(simp [*];done)),H',⟨by have:=HJ8.out;have:=HJ23.out;first|omega|exact Nat.le_refl _⟩,⟨by (with_reducible repeat (first|apply Kd.Qd|apply Kd.Qe|apply Kd.R_drew));exact Kd.R_mono HO132.out (fun _ hk=>trivial)⟩,⟨by repeat (first|(with_reducible first|exact HB.out|apply Qb|apply Qa|apply Qc)|exact HB.out)⟩⟩
        case rest=>
         clear HC44;(try clear c1);(try clear c2);(try clear p2);(try clear c3);(try clear c3b0);(try clear c5);(try clear c6);(try clear p6);(try clear c7);(try clear c17);(try clear c17b0);(try clear c17b1);(try clear c17b2);(try clear c18);(try clear c18b0);(try clear c18b1);(try clear c19);(try clear c19b0);(try clear c19b1);(try clear c19b2);(try clear c23);(try clear c25);(try clear c27);(try clear c28);(try clear c29);(try clear c29b0);(try clear c52);(try clear c52b0);(try clear c52b1);(try clear c52b2);(try clear c53);(try clear c53b0);(try clear c53b1);(try clear c53b2);(try clear c54);(try clear c54b0);(try clear c54b1);(try clear c54b2);(try clear p2);(try clear p6);obtain ⟨kq,x146_43,rfl,HA,HJ43,HO_23,HB⟩:=hcut
         cases kq with
         |zero=>exact absurd HA.out (by simp [laws_FnSmith.j2])
         |succ kj43=>
          have H:=HA.out;clear HA;simp only [laws_FnSmith.j2] at H;by_cases c55:x146_43=true
          ·subst c55;have H1:(some false)=some r:=by rw [if_pos rfl] at H;exact H
           clear H;have H:=H1;clear H1
           as_aux_lemma=>
            obtain rfl:=Option.some.inj H;go_wp2
            go_ret
            exact ⟨by first|rfl|(simp [errW_none,errW_some] <;> rfl)|(simp [*,errW_none,errW_some] <;> rfl),by repeat (first|(with_reducible first|exact HB.out|apply Qb|apply Qa|apply Qc)|exact HB.out)⟩
          ·replace c55:=Bool.eq_false_iff.mpr c55;subst c55;have H1:(if t134=true then (if (t130.length:Int) > 1 then ((some (([]:List Int):List Int)).bind fun y137=>(if y137.length+t130.length<17592186044416 then ((some (y137 ++ t130:List Int)).bind fun y140=>(if 1<(t130.length:Int) then (if 0<(y140.length:Int) then (if 0<(t130.length:Int) then (if 1<(y140.length:Int) then ((impl_CyclesIn.f kj43 ((y140.set (0:Int).toNat (rd t130 1)).set (1:Int).toNat (rd t130 0))).bind fun bt147=>(if bt147.2=true then (if bt147.1=(wrap64 (t133+1)) then (some true) else (some (bt147.1 == (wrap64 (t133 - 1))))) else (some false))) else (none)) else (none)) else (none)) else (none))) else (none))) else (some true)) else (some true))=some r:=by rw [if_neg (show ¬ (false=true) by decide)] at H;exact H
           clear H;have H:=H1;clear H1;by_cases c56:t134=true
           ·subst c56;have H1:(if (t130.length:Int) > 1 then ((some (([]:List Int):List Int)).bind fun y137=>(if y137.length+t130.length<17592186044416 then ((some (y137 ++ t130:List Int)).bind fun y140=>(if 1<(t130.length:Int) then (if 0<(y140.length:Int) then (if 0<(t130.length:Int) then (if 1<(y140.length:Int) then ((impl_CyclesIn.f kj43 ((y140.set (0:Int).toNat (rd t130 1)).set (1:Int).toNat (rd t130 0))).bind fun bt147=>(if bt147.2=true then (if bt147.1=(wrap64 (t133+1)) then (some true) else (some (bt147.1 == (wrap64 (t133 - 1))))) else (some false))) else (none)) else (none)) else (none)) else (none))) else (none))) else (some true))=some r:=by rw [if_pos rfl] at H;exact H
            clear H;have H:=H1;clear H1;by_cases c57:(t130.length:Int) > 1
            ·rw [if_pos c57] at H;have c57b0:decide (1<(t130.length:Int))=true:=decide_eq_true c57;have c57b1:decide (1<t130.length)=true:=decide_eq_true (by omega);clear c57;obtain ⟨y137,hy137⟩:∃ y_:List Int,y_=(([]:List Int)):=⟨_,rfl⟩;replace H:(if y137.length+t130.length<17592186044416 then ((some (y137 ++ t130:List Int)).bind fun y140=>(if 1<(t130.length:Int) then (if 0<(y140.length:Int) then (if 0<(t130.length:Int) then (if 1<(y140.length:Int) then ((impl_CyclesIn.f kj43 ((y140.set (0:Int).toNat (rd t130 1)).set (1:Int).toNat (rd t130 0))).bind fun bt147=>(if bt147.2=true then (if bt147.1=(wrap64 (t133+1)) then (some true) else (some (bt147.1 == (wrap64 (t133 - 1))))) else (some false))) else (none)) else (none)) else (none)) else (none))) else (none))=some r:=by first|(rw [hy137];with_reducible exact H)|(have H2_:=(Option.bind_some _ _).symm.trans H;rw [hy137];with_reducible exact H2_)|(have H2_:=(Option.bind_some _ _).symm.trans H;with_reducible exact H2_)|with_reducible exact H|(rw [hy137];exact H)|exact H
             have Ny137:=aM hy137;clear hy137;by_cases c58:y137.length+t130.length<17592186044416
             ·rw [if_pos c58] at H;have LMc58:=aM c58;clear c58;obtain ⟨y140,hy140⟩:∃ y_:List Int,y_=(y137 ++ t130):=⟨_,rfl⟩;replace H:(if 1<(t130.length:Int) then (if 0<(y140.length:Int) then (if 0<(t130.length:Int) then (if 1<(y140.length:Int) then ((impl_CyclesIn.f kj43 ((y140.set (0:Int).toNat (rd t130 1)).set (1:Int).toNat (rd t130 0))).bind fun bt147=>(if bt147.2=true then (if bt147.1=(wrap64 (t133+1)) then (some true) else (some (bt147.1 == (wrap64 (t133 - 1))))) else (some false))) else (none)) else (none)) else (none)) else (none))=some r:=by first|(rw [hy140];with_reducible exact H)|(have H2_:=(Option.bind_some _ _).symm.trans H;rw [hy140];with_reducible exact H2_)|(have H2_:=(Option.bind_some _ _).symm.trans H;with_reducible exact H2_)|with_reducible exact H|(rw [hy140];exact H)|exact H
              have Ny140:=aM hy140;clear hy140;by_cases c59:1<(t130.length:Int)
              ·rw [if_pos c59] at H;have c59b0:decide (1<(t130.length:Int))=true:=decide_eq_true c59;have c59b1:decide (1<t130.length)=true:=decide_eq_true (by omega);clear c59;by_cases c60:0<(y140.length:Int)
               ·rw [if_pos c60] at H;have c60b0:decide (0<(y140.length:Int))=true:=decide_eq_true c60;have c60b1:decide (0<y140.length)=true:=decide_eq_true (by omega);clear c60;obtain ⟨y144,hy144⟩:∃ y_:List Int,y_=(y140.set (0:Int).toNat (rd t130 1)):=⟨_,rfl⟩;replace H:(if 0<(t130.length:Int) then (if 1<(y140.length:Int) then ((impl_CyclesIn.f kj43 (y144.set (1:Int).toNat (rd t130 0))).bind fun bt147=>(if bt147.2=true then (if bt147.1=(wrap64 (t133+1)) then (some true) else (some (bt147.1 == (wrap64 (t133 - 1))))) else (some false))) else (none)) else (none))=some r:=by first|(rw [hy144];with_reducible exact H)|(have H2_:=(Option.bind_some _ _).symm.trans H;rw [hy144];with_reducible exact H2_)|(have H2_:=(Option.bind_some _ _).symm.trans H;with_reducible exact H2_)|with_reducible exact H|(rw [hy144];exact H)|exact H
                have Ny144:=aM hy144;clear hy144;by_cases c62:0<(t130.length:Int)
                ·rw [if_pos c62] at H;have c62b0:decide (0<(t130.length:Int))=true:=decide_eq_true c62;have c62b1:decide (0<t130.length)=true:=decide_eq_true (by omega);clear c62;by_cases c63:1<(y140.length:Int)
                 ·rw [if_pos c63] at H;have c63b0:decide (1<(y140.length:Int))=true:=decide_eq_true c63;have c63b1:decide (1<y140.length)=true:=decide_eq_true (by omega);clear c63;obtain ⟨y146,hy146⟩:∃ y_:List Int,y_=(y144.set (1:Int).toNat (rd t130 0)):=⟨_,rfl⟩;replace H:((impl_CyclesIn.f kj43 y146).bind fun bt147=>(if bt147.2=true then (if bt147.1=(wrap64 (t133+1)) then (some true) else (some (bt147.1 == (wrap64 (t133 - 1))))) else (some false)))=some r:=by first|(rw [hy146];with_reducible exact H)|(have H2_:=(Option.bind_some _ _).symm.trans H;rw [hy146];with_reducible exact H2_)|(have H2_:=(Option.bind_some _ _).symm.trans H;with_reducible exact H2_)|with_reducible exact H|(rw [hy146];exact H)|exact H
                  have Ny146:=aM hy146;clear hy146;replace H:=Option.bind_eq_some_iff.mp H;obtain ⟨⟨t147,t148⟩,A650,H⟩:=H;replace H:(if t148=true then (if t147=(wrap64 (t133+1)) then (some true) else (some (t147 == (wrap64 (t133 - 1))))) else (some false))=some r:=H;have A65:=aM A650;clear A650;by_cases c66:t148=true
                  ·subst c66;have H1:(if t147=(wrap64 (t133+1)) then (some true) else (some (t147 == (wrap64 (t133 - 1)))))=some r:=by rw [if_pos rfl] at H;exact H
                   clear H;have H:=H1;clear H1;by_cases c67:t147=(wrap64 (t133+1))
                   ·rw [if_pos c67] at H;have c67b0:(t147 == (wrap64 (t133+1)))=true:=beq_iff_eq.mpr c67;have c67b1:(t147 != (wrap64 (t133+1)))=false:=bne_eq_false_iff_eq.mpr c67;clear c67
                    as_aux_lemma=>
                     obtain rfl:=Option.some.inj H;go_wp2_with (first|((with_reducible refine gate_dst (N:=153) rfl ?_);(try (refine gate_guard (by rfl) ?_;dsimp only));refine Kd.R_lit (Kd.int .i64) _ 3 ?hg (N:=153) ?hd (xs:=([]:List Int)) (inner:=[]) (ok:=fun _=>True) (okp:=fun _=>True) ?hr ?hp (fun _ hk=>hk) trivial (Below.refl _ _) (Nat.le_refl _) (by simp) ?_;(case hd=>rfl);(case hg=>rfl);(case hr=>first|(go_simp;done)|(go_simp;rfl));(case hp=>exact (Reps.none _ _));intro v138 w68 ho69 hb hg_ hnew_;clear hg_ hnew_;(first|rw [←Ny137.out] at ho69|(simp only [Int.reduceToNat] at ho69;rw [←Ny137.out] at ho69));have n0_:=aM (Kd.R_elder' (by (with_reducible repeat (first|apply Kd.Qd|apply Kd.Qe|apply Kd.R_drew));exact HO_23.out) (Kd.R_base ho69) hb);have n1_:=aM (Kd.R_lower (Kd.R_new' ho69 (Kd.R_lt (by (with_reducible repeat (first|apply Kd.Qd|apply Kd.Qe|apply Kd.R_drew));exact HO_23.out))) (Qi (by repeat (first|(with_reducible first|exact HB.out|apply Qb|apply Qa|apply Qc)|exact HB.out))));have n2_:=aM (Qj (by repeat (first|(with_reducible first|exact HB.out|apply Qb|apply Qa|apply Qc)|exact HB.out)) hb);clear HO_23;clear HB;have HO_23:=n0_;have HO139:=n1_;have HB:=n2_;clear n0_ n1_ n2_;clear hb ho69)|((with_reducible refine gate_builtin (b:= .append) (xs:=#[.tmp 153,.tmp 154]) rfl ?_);(try (refine gate_guard (by rfl) ?_;dsimp only));at_builtin;refine Kd.R_append_rows (Kd.int .i64) (w0:=w) w.heap.size rfl (.tmp 153) (.tmp 154) 34 3 (.int .i64 0) 8 rfl Try.underlying34 info3 rfl (by decide) (by omega) v138 y137 t130 _ _ _ (fun k_=>some k_≠(.slice Ao49 t130.length co49:Value).ownBlock) (fun _=>False) rfl rfl ?aO ?aR (fun _ _ h=>h) (fun _ h=>h.elim) ?aF ?aB ?aS ?aL ?_;(case aR=>repeat (first|exact (Kd.Qg HO_23.out).2.2|(with_reducible refine Kd.C_alloc ?_ _)|(with_reducible refine Kd.C_drewN ?_ _)|(with_reducible refine Kd.C_drew ?_)));(case aB=>exact (by repeat (first|(with_reducible first|exact HB.out|apply Qb|apply Qa|apply Qc)|exact HB.out)));(case aF=>exact (fun k_ hk=>Kd.fresh' (Kd.R_lt (by (with_reducible repeat (first|apply Kd.Qd|apply Kd.Qe|apply Kd.R_drew));exact HO_23.out)) k_ hk));(case aO=>exact (by (with_reducible repeat (first|apply Kd.Qd|apply Kd.Qe|apply Kd.R_drew));exact Kd.R_mono HO139.out (fun _ hk=>hk.2)));(case aS=>exact (Qi (by repeat (first|(with_reducible first|exact HB.out|apply Qb|apply Qa|apply Qc)|exact HB.out))));(case aL=>have:=LMc58.out;omega);intro v141 w70 ho hb hg hat;rw [←Ny140.out] at ho;have n0_:=aM (Kd.R_after (ok:=(fun _=>True)) (by (with_reducible repeat (first|apply Kd.Qd|apply Kd.Qe|apply Kd.R_drew));exact HO_23.out) hg hat);have n1_:=aM (hb);have n2_:=aM (ho);clear HO_23;clear HB;clear HO139;have HO_23:=n0_;have HB:=n1_;have HO142:=n2_;clear n0_ n1_ n2_;clear ho hb hg hat;have p143:0≤(1:Int):=(by omega);have q143:1<(t130.length:Int):=of_decide_eq_true (by first|(with_reducible assumption)|assumption);obtain ⟨ad143,e143,hx143_0⟩:=Kd.at_int (Kd.Qg HO_23.out).2.2 1 p143 q143;cases e143;(try simp only [show (1:Int).toNat=1 from rfl,Nat.reduceMul,Nat.reduceEqDiff,Go.Addr.add,↓reduceIte] at hx143_0);have qi143:(1<t130.length)=True:=eq_true (by omega);(try rw [show ((1:Int)).toNat=1 from rfl] at hx143_0);replace p143:=eq_true p143;replace q143:=eq_true q143;have p61:0≤(0:Int):=(by omega);have q61:(0:Int)<((y140.length:Int):Int):=of_decide_eq_true (by first|(with_reducible assumption)|assumption);have qi61:(0<y140.length)=True:=eq_true (by omega);obtain ⟨go61,co61,eo61,gb61,gl61,cl61,HG61⟩:=Kd.R_form HO142.out (by omega);(first|cases eo61|(injection eo61 with ea_ en_ ec_;(first|subst ea_|(injection ea_ with ea_;subst ea_));subst ec_;clear en_));have GB61:=aM gb61;have GG61:=aM HG61;clear gb61 gl61 HG61;obtain ⟨hx61_0,hf61_0⟩:=Kd.R_celln 0 HO142.out (0:Int) p61 q61;(try rw [show ((0:Int)).toNat=0 from rfl] at hx61_0);(try simp only [Nat.reduceMul,Nat.zero_mul,Nat.zero_add,Nat.reduceAdd] at hx61_0);(try rw [show ((0:Int)).toNat=0 from rfl] at hf61_0);(try simp only [Nat.reduceMul,Nat.zero_mul,Nat.zero_add,Nat.reduceAdd] at hf61_0);replace p61:=eq_true p61;replace q61:=eq_true q61;obtain ⟨hy71_,hz71_⟩:=Kd.R_celln 0 HO142.out (0:Int) (by omega) (of_decide_eq_true (by first|(with_reducible assumption)|assumption));(try simp only [Int.reduceToNat,Int.toNat_zero,Int.toNat_ofNat,Nat.reduceMul,Nat.zero_mul,Nat.zero_add] at hy71_ hz71_);(try rw [show ((0:Int)).toNat=0 from rfl] at hy71_);(try rw [show ((0:Int)).toNat=0 from rfl] at hz71_);have HP71:=Kd.R_putg HO142.out (0:Int) (rd t130 1))|((with_reducible refine gate_store (t:=3) (p:=160) rfl ?_);refine store_event (t:=3) (p:=160) (v:=?vo_w72) (w1:=(w70.setCell ⟨go61,(0:Int).toNat,none⟩ (.int .i64 (rd t130 1)))) ?hg ?ho ?hn ?hr ?_;(case ho=>rfl);(case hg=>rfl);(case hn=>rfl);(case hr=>first|(go_simp;done)|(go_simp;rfl));intro w72 hw;have hg:w70.grownBy w72 (some go61):=(by rw [hw];exact HP71.2);have hp_:Kd.R (Kd.int .i64) 3 w72 w.heap.size (fun k_=>some k_≠(.slice (some ad143) t130.length co49:Value).ownBlock) (.slice (some ⟨go61,0,none⟩) y140.length co61) y144:=(by rw [hw,Ny144.out];exact HP71.1);clear HP71;have n0_:=aM (Kd.R_after (v:=(.slice (some ⟨go61,0,none⟩) y140.length co61)) (v1:=(.slice (some ⟨go61,0,none⟩) y140.length co61)) (ok:=(fun _=>True)) (by (with_reducible repeat (first|apply Kd.Qd|apply Kd.Qe|apply Kd.R_drew));exact HO_23.out) hg (.inl rfl));have n1_:=aM (hp_);have n2_:=aM ((by rw [hw];exact Qf (HB.out) GB61.out:Below w.heap.size w w72));clear HO_23;clear HO142;clear HB;have HO_23:=n0_;have HO142:=n1_;have HB:=n2_;clear n0_ n1_ n2_;clear hg hw hp_;have p145:0≤(0:Int):=(by omega);have q145:0<(t130.length:Int):=of_decide_eq_true (by first|(with_reducible assumption)|assumption);obtain ⟨ad145,e145,hx145_0⟩:=Kd.at_int (Kd.Qg HO_23.out).2.2 0 p145 q145;obtain rfl:ad143=ad145:=(by injection e145);have qi145:(0<t130.length)=True:=eq_true (by omega);(try rw [show ((0:Int)).toNat=0 from rfl] at hx145_0);(try rw [Addr.add_zero'] at hx145_0);replace p145:=eq_true p145;replace q145:=eq_true q145;have p64:0≤(1:Int):=(by omega);have q64:(1:Int)<((y140.length:Int):Int):=of_decide_eq_true (by first|(with_reducible assumption)|assumption);have qi64:(1<y140.length)=True:=eq_true (by omega);obtain ⟨hx64_0,hf64_0⟩:=Kd.R_celln 0 HO142.out (1:Int) p64 q64;(try rw [show ((1:Int)).toNat=1 from rfl] at hx64_0);(try simp only [Nat.reduceMul,Nat.zero_mul,Nat.zero_add,Nat.reduceAdd] at hx64_0);(try rw [show ((1:Int)).toNat=1 from rfl] at hf64_0);(try simp only [Nat.reduceMul,Nat.zero_mul,Nat.zero_add,Nat.reduceAdd] at hf64_0);replace p64:=eq_true p64;replace q64:=eq_true q64;obtain ⟨hy73_,hz73_⟩:=Kd.R_celln 0 HO142.out (1:Int) (by omega) (of_decide_eq_true (by first|(with_reducible assumption)|assumption));(try simp only [Int.reduceToNat,Int.toNat_zero,Int.toNat_ofNat,Nat.reduceMul,Nat.zero_mul,Nat.zero_add] at hy73_ hz73_);(try rw [show ((1:Int)).toNat=1 from rfl] at hy73_);(try rw [show ((1:Int)).toNat=1 from rfl] at hz73_);have HP73:=Kd.R_putg HO142.out (1:Int) (rd t130 0))|((with_reducible refine gate_store (t:=3) (p:=165) rfl ?_);refine store_event (t:=3) (p:=165) (v:=?vo_w74) (w1:=(w72.setCell ⟨go61,(1:Int).toNat,none⟩ (.int .i64 (rd t130 0)))) ?hg ?ho ?hn ?hr ?_;(case ho=>rfl);(case hg=>rfl);(case hn=>rfl);(case hr=>first|(go_simp;done)|(go_simp;rfl));intro w74 hw;have hg:w72.grownBy w74 (some go61):=(by rw [hw];exact HP73.2);have hp_:Kd.R (Kd.int .i64) 3 w74 w.heap.size (fun k_=>some k_≠(.slice (some ad143) t130.length co49:Value).ownBlock) (.slice (some ⟨go61,0,none⟩) y140.length co61) y146:=(by rw [hw,Ny146.out];exact HP73.1);clear HP73;have n0_:=aM (Kd.R_after (v:=(.slice (some ⟨go61,0,none⟩) y140.length co61)) (v1:=(.slice (some ⟨go61,0,none⟩) y140.length co61)) (ok:=(fun _=>True)) (by (with_reducible repeat (first|apply Kd.Qd|apply Kd.Qe|apply Kd.R_drew));exact HO_23.out) hg (.inl rfl));have n1_:=aM (hp_);have n2_:=aM ((by rw [hw];exact Qf (HB.out) GB61.out:Below w.heap.size w w74));clear HO_23;clear HO142;clear HB;have HO_23:=n0_;have HO142:=n1_;have HB:=n2_;clear n0_ n1_ n2_;clear hg hw hp_)|((with_reducible refine Qh (f:=63) rfl ?_);refine goesL_ (some 168) rfl rfl Try.func63 (by kernel_rfl) rfl #[.slice (some ⟨go61,0,none⟩) y146.length co61] rfl (by (try simp only [aD,aE,aF]);first|done|(rw [show y146.length=y140.length from (Kd.Qg HO142.out).1.symm] <;> rfl)|rfl|(simp only [aG,aH];rfl)) ?_;(with_reducible refine (impl_CyclesIn.calls kj43 _ _ y146 t147 true _ ?side1 ?side2 A65.out).mono ?_);(case side1=>repeat (first|exact (Kd.Qg HO142.out).2.2|(with_reducible refine Kd.C_alloc ?_ _)|(with_reducible refine Kd.C_drewN ?_ _)|(with_reducible refine Kd.C_drew ?_)));(case side2=>rw [show y146.length=y140.length from (Kd.Qg HO142.out).1.symm];exact (Kd.Qg HO142.out).2.1);rintro e w75 ⟨rfl,hb⟩;refine ⟨_,rfl,?_⟩;have n0_:=aM (Kd.R_below (by (with_reducible repeat (first|apply Kd.Qd|apply Kd.Qe|apply Kd.R_drew));exact HO_23.out) hb);have n1_:=aM (Kd.R_below (by (with_reducible repeat (first|apply Kd.Qd|apply Kd.Qe|apply Kd.R_drew));exact HO142.out) hb);have n2_:=aM (Qj (by repeat (first|(with_reducible first|exact HB.out|apply Qb|apply Qa|apply Qc)|exact HB.out)) hb);clear HO_23;clear HO142;clear HB;have HO_23:=n0_;have HO142:=n1_;have HB:=n2_;clear n0_ n1_ n2_;(try clear hb);(try clear hb2);(try clear hk);(try clear hi)))
                     go_ret
                     exact ⟨by first|rfl|(simp [errW_none,errW_some] <;> rfl)|(simp [*,errW_none,errW_some] <;> rfl),by repeat (first|(with_reducible first|exact HB.out|apply Qb|apply Qa|apply Qc)|exact HB.out)⟩
                   ·rw [if_neg c67] at H;have c67b0:(t147 == (wrap64 (t133+1)))=false:=beq_eq_false_iff_ne.mpr c67;have c67b1:(t147 != (wrap64 (t133+1)))=true:=bne_iff_ne.mpr c67
                    as_aux_lemma=>
                     obtain rfl:=Option.some.inj H;go_wp2_with (first|((with_reducible refine gate_dst (N:=153) rfl ?_);(try (refine gate_guard (by rfl) ?_;dsimp only));refine Kd.R_lit (Kd.int .i64) _ 3 ?hg (N:=153) ?hd (xs:=([]:List Int)) (inner:=[]) (ok:=fun _=>True) (okp:=fun _=>True) ?hr ?hp (fun _ hk=>hk) trivial (Below.refl _ _) (Nat.le_refl _) (by simp) ?_;(case hd=>rfl);(case hg=>rfl);(case hr=>first|(go_simp;done)|(go_simp;rfl));(case hp=>exact (Reps.none _ _));intro v138 w76 ho77 hb hg_ hnew_;clear hg_ hnew_;(first|rw [←Ny137.out] at ho77|(simp only [Int.reduceToNat] at ho77;rw [←Ny137.out] at ho77));have n0_:=aM (Kd.R_elder' (by (with_reducible repeat (first|apply Kd.Qd|apply Kd.Qe|apply Kd.R_drew));exact HO_23.out) (Kd.R_base ho77) hb);have n1_:=aM (Kd.R_lower (Kd.R_new' ho77 (Kd.R_lt (by (with_reducible repeat (first|apply Kd.Qd|apply Kd.Qe|apply Kd.R_drew));exact HO_23.out))) (Qi (by repeat (first|(with_reducible first|exact HB.out|apply Qb|apply Qa|apply Qc)|exact HB.out))));have n2_:=aM (Qj (by repeat (first|(with_reducible first|exact HB.out|apply Qb|apply Qa|apply Qc)|exact HB.out)) hb);clear HO_23;clear HB;have HO_23:=n0_;have HO139:=n1_;have HB:=n2_;clear n0_ n1_ n2_;clear hb ho77)|((with_reducible refine gate_builtin (b:= .append) (xs:=#[.tmp 153,.tmp 154]) rfl ?_);(try (refine gate_guard (by rfl) ?_;dsimp only));at_builtin;refine Kd.R_append_rows (Kd.int .i64) (w0:=w) w.heap.size rfl (.tmp 153) (.tmp 154) 34 3 (.int .i64 0) 8 rfl Try.underlying34 info3 rfl (by decide) (by omega) v138 y137 t130 _ _ _ (fun k_=>some k_≠(.slice Ao49 t130.length co49:Value).ownBlock) (fun _=>False) rfl rfl ?aO ?aR (fun _ _ h=>h) (fun _ h=>h.elim) ?aF ?aB ?aS ?aL ?_;(case aR=>repeat (first|exact (Kd.Qg HO_23.out).2.2|(with_reducible refine Kd.C_alloc ?_ _)|(with_reducible refine Kd.C_drewN ?_ _)|(with_reducible refine Kd.C_drew ?_)));(case aB=>exact (by repeat (first|(with_reducible first|exact HB.out|apply Qb|apply Qa|apply Qc)|exact HB.out)));(case aF=>exact (fun k_ hk=>Kd.fresh' (Kd.R_lt (by (with_reducible repeat (first|apply Kd.Qd|apply Kd.Qe|apply Kd.R_drew));exact HO_23.out)) k_ hk));(case aO=>exact (by (with_reducible repeat (first|apply Kd.Qd|apply Kd.Qe|apply Kd.R_drew));exact Kd.R_mono HO139.out (fun _ hk=>hk.2)));(case aS=>exact (Qi (by repeat (first|(with_reducible first|exact HB.out|apply Qb|apply Qa|apply Qc)|exact HB.out))));(case aL=>have:=LMc58.out;omega);intro v141 w78 ho hb hg hat;rw [←Ny140.out] at ho;have n0_:=aM (Kd.R_after (ok:=(fun _=>True)) (by (with_reducible repeat (first|apply Kd.Qd|apply Kd.Qe|apply Kd.R_drew));exact HO_23.out) hg hat);have n1_:=aM (hb);have n2_:=aM (ho);clear HO_23;clear HB;clear HO139;have HO_23:=n0_;have HB:=n1_;have HO142:=n2_;clear n0_ n1_ n2_;clear ho hb hg hat;have p143:0≤(1:Int):=(by omega);have q143:1<(t130.length:Int):=of_decide_eq_true (by first|(with_reducible assumption)|assumption);obtain ⟨ad143,e143,hx143_0⟩:=Kd.at_int (Kd.Qg HO_23.out).2.2 1 p143 q143;cases e143;(try simp only [show (1:Int).toNat=1 from rfl,Nat.reduceMul,Nat.reduceEqDiff,Go.Addr.add,↓reduceIte] at hx143_0);have qi143:(1<t130.length)=True:=eq_true (by omega);(try rw [show ((1:Int)).toNat=1 from rfl] at hx143_0);replace p143:=eq_true p143;replace q143:=eq_true q143;have p61:0≤(0:Int):=(by omega);have q61:(0:Int)<((y140.length:Int):Int):=of_decide_eq_true (by first|(with_reducible assumption)|assumption);have qi61:(0<y140.length)=True:=eq_true (by omega);obtain ⟨go61,co61,eo61,gb61,gl61,cl61,HG61⟩:=Kd.R_form HO142.out (by omega);(first|cases eo61|(injection eo61 with ea_ en_ ec_;(first|subst ea_|(injection ea_ with ea_;subst ea_));subst ec_;clear en_));have GB61:=aM gb61;have GG61:=aM HG61;clear gb61 gl61 HG61;obtain ⟨hx61_0,hf61_0⟩:=Kd.R_celln 0 HO142.out (0:Int) p61 q61;(try rw [show ((0:Int)).toNat=0 from rfl] at hx61_0);(try simp only [Nat.reduceMul,Nat.zero_mul,Nat.zero_add,Nat.reduceAdd] at hx61_0);(try rw [show ((0:Int)).toNat=0 from rfl] at hf61_0);(try simp only [Nat.reduceMul,Nat.zero_mul,Nat.zero_add,Nat.reduceAdd] at hf61_0);replace p61:=eq_true p61;replace q61:=eq_true q61;obtain ⟨hy79_,hz79_⟩:=Kd.R_celln 0 HO142.out (0:Int) (by omega) (of_decide_eq_true (by first|(with_reducible assumption)|assumption));(try simp only [Int.reduceToNat,Int.toNat_zero,Int.toNat_ofNat,Nat.reduceMul,Nat.zero_mul,Nat.zero_add] at hy79_ hz79_);(try rw [show ((0:Int)).toNat=0 from rfl] at hy79_);(try rw [show ((0:Int)).toNat=0 from rfl] at hz79_);have HP79:=Kd.R_putg HO142.out (0:Int) (rd t130 1))|((with_reducible refine gate_store (t:=3) (p:=160) rfl ?_);refine store_event (t:=3) (p:=160) (v:=?vo_w80) (w1:=(w78.setCell ⟨go61,(0:Int).toNat,none⟩ (.int .i64 (rd t130 1)))) ?hg ?ho ?hn ?hr ?_;(case ho=>rfl);(case hg=>rfl);(case hn=>rfl);(case hr=>first|(go_simp;done)|(go_simp;rfl));intro w80 hw;have hg:w78.grownBy w80 (some go61):=(by rw [hw];exact HP79.2);have hp_:Kd.R (Kd.int .i64) 3 w80 w.heap.size (fun k_=>some k_≠(.slice (some ad143) t130.length co49:Value).ownBlock) (.slice (some ⟨go61,0,none⟩) y140.length co61) y144:=(by rw [hw,Ny144.out];exact HP79.1);clear HP79;have n0_:=aM (Kd.R_after (v:=(.slice (some ⟨go61,0,none⟩) y140.length co61)) (v1:=(.slice (some ⟨go61,0,none⟩) y140.length co61)) (ok:=(fun _=>True)) (by (with_reducible repeat (first|apply Kd.Qd|apply Kd.Qe|apply Kd.R_drew));exact HO_23.out) hg (.inl rfl));have n1_:=aM (hp_);have n2_:=aM ((by rw [hw];exact Qf (HB.out) GB61.out:Below w.heap.size w w80));clear HO_23;clear HO142;clear HB;have HO_23:=n0_;have HO142:=n1_;have HB:=n2_;clear n0_ n1_ n2_;clear hg hw hp_;have p145:0≤(0:Int):=(by omega);have q145:0<(t130.length:Int):=of_decide_eq_true (by first|(with_reducible assumption)|assumption);obtain ⟨ad145,e145,hx145_0⟩:=Kd.at_int (Kd.Qg HO_23.out).2.2 0 p145 q145;obtain rfl:ad143=ad145:=(by injection e145);have qi145:(0<t130.length)=True:=eq_true (by omega);(try rw [show ((0:Int)).toNat=0 from rfl] at hx145_0);(try rw [Addr.add_zero'] at hx145_0);replace p145:=eq_true p145;replace q145:=eq_true q145;have p64:0≤(1:Int):=(by omega);have q64:(1:Int)<((y140.length:Int):Int):=of_decide_eq_true (by first|(with_reducible assumption)|assumption);have qi64:(1<y140.length)=True:=eq_true (by omega);obtain ⟨hx64_0,hf64_0⟩:=Kd.R_celln 0 HO142.out (1:Int) p64 q64;(try rw [show ((1:Int)).toNat=1 from rfl] at hx64_0);(try simp only [Nat.reduceMul,Nat.zero_mul,Nat.zero_add,Nat.reduceAdd] at hx64_0);(try rw [show ((1:Int)).toNat=1 from rfl] at hf64_0);(try simp only [Nat.reduceMul,Nat.zero_mul,Nat.zero_add,Nat.reduceAdd] at hf64_0);replace p64:=eq_true p64;replace q64:=eq_true q64;obtain ⟨hy81_,hz81_⟩:=Kd.R_celln 0 HO142.out (1:Int) (by omega) (of_decide_eq_true (by first|(with_reducible assumption)|assumption));(try simp only [Int.reduceToNat,Int.toNat_zero,Int.toNat_ofNat,Nat.reduceMul,Nat.zero_mul,Nat.zero_add] at hy81_ hz81_);(try rw [show ((1:Int)).toNat=1 from rfl] at hy81_);(try rw [show ((1:Int)).toNat=1 from rfl] at hz81_);have HP81:=Kd.R_putg HO142.out (1:Int) (rd t130 0))|((with_reducible refine gate_store (t:=3) (p:=165) rfl ?_);refine store_event (t:=3) (p:=165) (v:=?vo_w82) (w1:=(w80.setCell ⟨go61,(1:Int).toNat,none⟩ (.int .i64 (rd t130 0)))) ?hg ?ho ?hn ?hr ?_;(case ho=>rfl);(case hg=>rfl);(case hn=>rfl);(case hr=>first|(go_simp;done)|(go_simp;rfl));intro w82 hw;have hg:w80.grownBy w82 (some go61):=(by rw [hw];exact HP81.2);have hp_:Kd.R (Kd.int .i64) 3 w82 w.heap.size (fun k_=>some k_≠(.slice (some ad143) t130.length co49:Value).ownBlock) (.slice (some ⟨go61,0,none⟩) y140.length co61) y146:=(by rw [hw,Ny146.out];exact HP81.1);clear HP81;have n0_:=aM (Kd.R_after (v:=(.slice (some ⟨go61,0,none⟩) y140.length co61)) (v1:=(.slice (some ⟨go61,0,none⟩) y140.length co61)) (ok:=(fun _=>True)) (by (with_reducible repeat (first|apply Kd.Qd|apply Kd.Qe|apply Kd.R_drew));exact HO_23.out) hg (.inl rfl));have n1_:=aM (hp_);have n2_:=aM ((by rw [hw];exact Qf (HB.out) GB61.out:Below w.heap.size w w82));clear HO_23;clear HO142;clear HB;have HO_23:=n0_;have HO142:=n1_;have HB:=n2_;clear n0_ n1_ n2_;clear hg hw hp_)|((with_reducible refine Qh (f:=63) rfl ?_);refine goesL_ (some 168) rfl rfl Try.func63 (by kernel_rfl) rfl #[.slice (some ⟨go61,0,none⟩) y146.length co61] rfl (by (try simp only [aD,aE,aF]);first|done|(rw [show y146.length=y140.length from (Kd.Qg HO142.out).1.symm] <;> rfl)|rfl|(simp only [aG,aH];rfl)) ?_;(with_reducible refine (impl_CyclesIn.calls kj43 _ _ y146 t147 true _ ?side1 ?side2 A65.out).mono ?_);(case side1=>repeat (first|exact (Kd.Qg HO142.out).2.2|(with_reducible refine Kd.C_alloc ?_ _)|(with_reducible refine Kd.C_drewN ?_ _)|(with_reducible refine Kd.C_drew ?_)));(case side2=>rw [show y146.length=y140.length from (Kd.Qg HO142.out).1.symm];exact (Kd.Qg HO142.out).2.1);rintro e w83 ⟨rfl,hb⟩;refine ⟨_,rfl,?_⟩;have n0_:=aM (Kd.R_below (by (with_reducible repeat (first|apply Kd.Qd|apply Kd.Qe|apply Kd.R_drew));exact HO_23.out) hb);have n1_:=aM (Kd.R_below (by (with_reducible repeat (first|apply Kd.Qd|apply Kd.Qe|apply Kd.R_drew));exact HO142.out) hb);have n2_:=aM (Qj (by repeat (first|(with_reducible first|exact HB.out|apply Qb|apply Qa|apply Qc)|exact HB.out)) hb);clear HO_23;clear HO142;clear HB;have HO_23:=n0_;have HO142:=n1_;have HB:=n2_;clear n0_ n1_ n2_;(try clear hb);(try clear hb2);(try clear hk);(try clear hi)))
                     go_ret
                     exact ⟨by first|rfl|(simp [errW_none,errW_some] <;> rfl)|(simp [*,errW_none,errW_some] <;> rfl),by repeat (first|(with_reducible first|exact HB.out|apply Qb|apply Qa|apply Qc)|exact HB.out)⟩
                  ·replace c66:=Bool.eq_false_iff.mpr c66;subst c66;have H1:(some false)=some r:=by rw [if_neg (show ¬ (false=true) by decide)] at H;exact H
                   clear H;have H:=H1;clear H1
                   as_aux_lemma=>
                    obtain rfl:=Option.some.inj H;go_wp2_with (first|((with_reducible refine gate_dst (N:=153) rfl ?_);(try (refine gate_guard (by rfl) ?_;dsimp only));refine Kd.R_lit (Kd.int .i64) _ 3 ?hg (N:=153) ?hd (xs:=([]:List Int)) (inner:=[]) (ok:=fun _=>True) (okp:=fun _=>True) ?hr ?hp (fun _ hk=>hk) trivial (Below.refl _ _) (Nat.le_refl _) (by simp) ?_;(case hd=>rfl);(case hg=>rfl);(case hr=>first|(go_simp;done)|(go_simp;rfl));(case hp=>exact (Reps.none _ _));intro v138 w84 ho85 hb hg_ hnew_;clear hg_ hnew_;(first|rw [←Ny137.out] at ho85|(simp only [Int.reduceToNat] at ho85;rw [←Ny137.out] at ho85));have n0_:=aM (Kd.R_elder' (by (with_reducible repeat (first|apply Kd.Qd|apply Kd.Qe|apply Kd.R_drew));exact HO_23.out) (Kd.R_base ho85) hb);have n1_:=aM (Kd.R_lower (Kd.R_new' ho85 (Kd.R_lt (by (with_reducible repeat (first|apply Kd.Qd|apply Kd.Qe|apply Kd.R_drew));exact HO_23.out))) (Qi (by repeat (first|(with_reducible first|exact HB.out|apply Qb|apply Qa|apply Qc)|exact HB.out))));have n2_:=aM (Qj (by repeat (first|(with_reducible first|exact HB.out|apply Qb|apply Qa|apply Qc)|exact HB.out)) hb);clear HO_23;clear HB;have HO_23:=n0_;have HO139:=n1_;have HB:=n2_;clear n0_ n1_ n2_;clear hb ho85)|((with_reducible refine gate_builtin (b:= .append) (xs:=#[.tmp 153,.tmp 154]) rfl ?_);(try (refine gate_guard (by rfl) ?_;dsimp only));at_builtin;refine Kd.R_append_rows (Kd.int .i64) (w0:=w) w.heap.size rfl (.tmp 153) (.tmp 154) 34 3 (.int .i64 0) 8 rfl Try.underlying34 info3 rfl (by decide) (by omega) v138 y137 t130 _ _ _ (fun k_=>some k_≠(.slice Ao49 t130.length co49:Value).ownBlock) (fun _=>False) rfl rfl ?aO ?aR (fun _ _ h=>h) (fun _ h=>h.elim) ?aF ?aB ?aS ?aL ?_;(case aR=>repeat (first|exact (Kd.Qg HO_23.out).2.2|(with_reducible refine Kd.C_alloc ?_ _)|(with_reducible refine Kd.C_drewN ?_ _)|(with_reducible refine Kd.C_drew ?_)));(case aB=>exact (by repeat (first|(with_reducible first|exact HB.out|apply Qb|apply Qa|apply Qc)|exact HB.out)));(case aF=>exact (fun k_ hk=>Kd.fresh' (Kd.R_lt (by (with_reducible repeat (first|apply Kd.Qd|apply Kd.Qe|apply Kd.R_drew));exact HO_23.out)) k_ hk));(case aO=>exact (by (with_reducible repeat (first|apply Kd.Qd|apply Kd.Qe|apply Kd.R_drew));exact Kd.R_mono HO139.out (fun _ hk=>hk.2)));(case aS=>exact (Qi (by repeat (first|(with_reducible first|exact HB.out|apply Qb|apply Qa|apply Qc)|exact HB.out))));(case aL=>have:=LMc58.out;omega);intro v141 w86 ho hb hg hat;rw [←Ny140.out] at ho;have n0_:=aM (Kd.R_after (ok:=(fun _=>True)) (by (with_reducible repeat (first|apply Kd.Qd|apply Kd.Qe|apply Kd.R_drew));exact HO_23.out) hg hat);have n1_:=aM (hb);have n2_:=aM (ho);clear HO_23;clear HB;clear HO139;have HO_23:=n0_;have HB:=n1_;have HO142:=n2_;clear n0_ n1_ n2_;clear ho hb hg hat;have p143:0≤(1:Int):=(by omega);have q143:1<(t130.length:Int):=of_decide_eq_true (by first|(with_reducible assumption)|assumption);obtain ⟨ad143,e143,hx143_0⟩:=Kd.at_int (Kd.Qg HO_23.out).2.2 1 p143 q143;cases e143;(try simp only [show (1:Int).toNat=1 from rfl,Nat.reduceMul,Nat.reduceEqDiff,Go.Addr.add,↓reduceIte] at hx143_0);have qi143:(1<t130.length)=True:=eq_true (by omega);(try rw [show ((1:Int)).toNat=1 from rfl] at hx143_0);replace p143:=eq_true p143;replace q143:=eq_true q143;have p61:0≤(0:Int):=(by omega);have q61:(0:Int)<((y140.length:Int):Int):=of_decide_eq_true (by first|(with_reducible assumption)|assumption);have qi61:(0<y140.length)=True:=eq_true (by omega);obtain ⟨go61,co61,eo61,gb61,gl61,cl61,HG61⟩:=Kd.R_form HO142.out (by omega);(first|cases eo61|(injection eo61 with ea_ en_ ec_;(first|subst ea_|(injection ea_ with ea_;subst ea_));subst ec_;clear en_));have GB61:=aM gb61;have GG61:=aM HG61;clear gb61 gl61 HG61;obtain ⟨hx61_0,hf61_0⟩:=Kd.R_celln 0 HO142.out (0:Int) p61 q61;(try rw [show ((0:Int)).toNat=0 from rfl] at hx61_0);(try simp only [Nat.reduceMul,Nat.zero_mul,Nat.zero_add,Nat.reduceAdd] at hx61_0);(try rw [show ((0:Int)).toNat=0 from rfl] at hf61_0);(try simp only [Nat.reduceMul,Nat.zero_mul,Nat.zero_add,Nat.reduceAdd] at hf61_0);replace p61:=eq_true p61;replace q61:=eq_true q61;obtain ⟨hy87_,hz87_⟩:=Kd.R_celln 0 HO142.out (0:Int) (by omega) (of_decide_eq_true (by first|(with_reducible assumption)|assumption));(try simp only [Int.reduceToNat,Int.toNat_zero,Int.toNat_ofNat,Nat.reduceMul,Nat.zero_mul,Nat.zero_add] at hy87_ hz87_);(try rw [show ((0:Int)).toNat=0 from rfl] at hy87_);(try rw [show ((0:Int)).toNat=0 from rfl] at hz87_);have HP87:=Kd.R_putg HO142.out (0:Int) (rd t130 1))|((with_reducible refine gate_store (t:=3) (p:=160) rfl ?_);refine store_event (t:=3) (p:=160) (v:=?vo_w88) (w1:=(w86.setCell ⟨go61,(0:Int).toNat,none⟩ (.int .i64 (rd t130 1)))) ?hg ?ho ?hn ?hr ?_;(case ho=>rfl);(case hg=>rfl);(case hn=>rfl);(case hr=>first|(go_simp;done)|(go_simp;rfl));intro w88 hw;have hg:w86.grownBy w88 (some go61):=(by rw [hw];exact HP87.2);have hp_:Kd.R (Kd.int .i64) 3 w88 w.heap.size (fun k_=>some k_≠(.slice (some ad143) t130.length co49:Value).ownBlock) (.slice (some ⟨go61,0,none⟩) y140.length co61) y144:=(by rw [hw,Ny144.out];exact HP87.1);clear HP87;have n0_:=aM (Kd.R_after (v:=(.slice (some ⟨go61,0,none⟩) y140.length co61)) (v1:=(.slice (some ⟨go61,0,none⟩) y140.length co61)) (ok:=(fun _=>True)) (by (with_reducible repeat (first|apply Kd.Qd|apply Kd.Qe|apply Kd.R_drew));exact HO_23.out) hg (.inl rfl));have n1_:=aM (hp_);have n2_:=aM ((by rw [hw];exact Qf (HB.out) GB61.out:Below w.heap.size w w88));clear HO_23;clear HO142;clear HB;have HO_23:=n0_;have HO142:=n1_;have HB:=n2_;clear n0_ n1_ n2_;clear hg hw hp_;have p145:0≤(0:Int):=(by omega);have q145:0<(t130.length:Int):=of_decide_eq_true (by first|(with_reducible assumption)|assumption);obtain ⟨ad145,e145,hx145_0⟩:=Kd.at_int (Kd.Qg HO_23.out).2.2 0 p145 q145;obtain rfl:ad143=ad145:=(by injection e145);have qi145:(0<t130.length)=True:=eq_true (by omega);(try rw [show ((0:Int)).toNat=0 from rfl] at hx145_0);(try rw [Addr.add_zero'] at hx145_0);replace p145:=eq_true p145;replace q145:=eq_true q145;have p64:0≤(1:Int):=(by omega);have q64:(1:Int)<((y140.length:Int):Int):=of_decide_eq_true (by first|(with_reducible assumption)|assumption);have qi64:(1<y140.length)=True:=eq_true (by omega);obtain ⟨hx64_0,hf64_0⟩:=Kd.R_celln 0 HO142.out (1:Int) p64 q64;(try rw [show ((1:Int)).toNat=1 from rfl] at hx64_0);(try simp only [Nat.reduceMul,Nat.zero_mul,Nat.zero_add,Nat.reduceAdd] at hx64_0);(try rw [show ((1:Int)).toNat=1 from rfl] at hf64_0);(try simp only [Nat.reduceMul,Nat.zero_mul,Nat.zero_add,Nat.reduceAdd] at hf64_0);replace p64:=eq_true p64;replace q64:=eq_true q64;obtain ⟨hy89_,hz89_⟩:=Kd.R_celln 0 HO142.out (1:Int) (by omega) (of_decide_eq_true (by first|(with_reducible assumption)|assumption));(try simp only [Int.reduceToNat,Int.toNat_zero,Int.toNat_ofNat,Nat.reduceMul,Nat.zero_mul,Nat.zero_add] at hy89_ hz89_);(try rw [show ((1:Int)).toNat=1 from rfl] at hy89_);(try rw [show ((1:Int)).toNat=1 from rfl] at hz89_);have HP89:=Kd.R_putg HO142.out (1:Int) (rd t130 0))|((with_reducible refine gate_store (t:=3) (p:=165) rfl ?_);refine store_event (t:=3) (p:=165) (v:=?vo_w90) (w1:=(w88.setCell ⟨go61,(1:Int).toNat,none⟩ (.int .i64 (rd t130 0)))) ?hg ?ho ?hn ?hr ?_;(case ho=>rfl);(case hg=>rfl);(case hn=>rfl);(case hr=>first|(go_simp;done)|(go_simp;rfl));intro w90 hw;have hg:w88.grownBy w90 (some go61):=(by rw [hw];exact HP89.2);have hp_:Kd.R (Kd.int .i64) 3 w90 w.heap.size (fun k_=>some k_≠(.slice (some ad143) t130.length co49:Value).ownBlock) (.slice (some ⟨go61,0,none⟩) y140.length co61) y146:=(by rw [hw,Ny146.out];exact HP89.1);clear HP89;have n0_:=aM (Kd.R_after (v:=(.slice (some ⟨go61,0,none⟩) y140.length co61)) (v1:=(.slice (some ⟨go61,0,none⟩) y140.length co61)) (ok:=(fun _=>True)) (by (with_reducible repeat (first|apply Kd.Qd|apply Kd.Qe|apply Kd.R_drew));exact HO_23.out) hg (.inl rfl));have n1_:=aM (hp_);have n2_:=aM ((by rw [hw];exact Qf (HB.out) GB61.out:Below w.heap.size w w90));clear HO_23;clear HO142;clear HB;have HO_23:=n0_;have HO142:=n1_;have HB:=n2_;clear n0_ n1_ n2_;clear hg hw hp_)|((with_reducible refine Qh (f:=63) rfl ?_);refine goesL_ (some 168) rfl rfl Try.func63 (by kernel_rfl) rfl #[.slice (some ⟨go61,0,none⟩) y146.length co61] rfl (by (try simp only [aD,aE,aF]);first|done|(rw [show y146.length=y140.length from (Kd.Qg HO142.out).1.symm] <;> rfl)|rfl|(simp only [aG,aH];rfl)) ?_;(with_reducible refine (impl_CyclesIn.calls kj43 _ _ y146 t147 false _ ?side1 ?side2 A65.out).mono ?_);(case side1=>repeat (first|exact (Kd.Qg HO142.out).2.2|(with_reducible refine Kd.C_alloc ?_ _)|(with_reducible refine Kd.C_drewN ?_ _)|(with_reducible refine Kd.C_drew ?_)));(case side2=>rw [show y146.length=y140.length from (Kd.Qg HO142.out).1.symm];exact (Kd.Qg HO142.out).2.1);rintro e w91 ⟨rfl,hb⟩;refine ⟨_,rfl,?_⟩;have n0_:=aM (Kd.R_below (by (with_reducible repeat (first|apply Kd.Qd|apply Kd.Qe|apply Kd.R_drew));exact HO_23.out) hb);have n1_:=aM (Kd.R_below (by (with_reducible repeat (first|apply Kd.Qd|apply Kd.Qe|apply Kd.R_drew));exact HO142.out) hb);have n2_:=aM (Qj (by repeat (first|(with_reducible first|exact HB.out|apply Qb|apply Qa|apply Qc)|exact HB.out)) hb);clear HO_23;clear HO142;clear HB;have HO_23:=n0_;have HO142:=n1_;have HB:=n2_;clear n0_ n1_ n2_;(try clear hb);(try clear hb2);(try clear hk);(try clear hi)))
                    go_ret
                    exact ⟨by first|rfl|(simp [errW_none,errW_some] <;> rfl)|(simp [*,errW_none,errW_some] <;> rfl),by repeat (first|(with_reducible first|exact HB.out|apply Qb|apply Qa|apply Qc)|exact HB.out)⟩
                 ·rw [if_neg c63] at H;exact absurd H (by simp)
                ·rw [if_neg c62] at H;exact absurd H (by simp)
               ·rw [if_neg c60] at H;exact absurd H (by simp)
              ·rw [if_neg c59] at H;exact absurd H (by simp)
             ·rw [if_neg c58] at H;exact absurd H (by simp)
            ·rw [if_neg c57] at H;have c57b0:decide (1<(t130.length:Int))=false:=decide_eq_false c57;have c57b1:decide (1<t130.length)=false:=decide_eq_false (by omega);clear c57
             as_aux_lemma=>
              obtain rfl:=Option.some.inj H;go_wp2
              go_ret
              exact ⟨by first|rfl|(simp [errW_none,errW_some] <;> rfl)|(simp [*,errW_none,errW_some] <;> rfl),by repeat (first|(with_reducible first|exact HB.out|apply Qb|apply Qa|apply Qc)|exact HB.out)⟩
           ·replace c56:=Bool.eq_false_iff.mpr c56;subst c56;have H1:(some true)=some r:=by rw [if_neg (show ¬ (false=true) by decide)] at H;exact H
            clear H;have H:=H1;clear H1
            as_aux_lemma=>
             obtain rfl:=Option.some.inj H;go_wp2
             go_ret
             exact ⟨by first|rfl|(simp [errW_none,errW_some] <;> rfl)|(simp [*,errW_none,errW_some] <;> rfl),by repeat (first|(with_reducible first|exact HB.out|apply Qb|apply Qa|apply Qc)|exact HB.out)⟩

/-- THE ONE PURE STATEMENT of laws_FnSmith:yours. -/
def laws_FnSmith.Pure:Prop:=∀ (l0:List Int) (l1:List Int),l0.length≤maxLen→l0.length * 1≤140737488351232→(∀ x ∈ l0,(Lit.int .u8 x).wf=true)→l1.length≤maxLen→l1.length * 1≤140737488351232→(∀ x ∈ l1,(Lit.int .u8 x).wf=true)→∃ k,laws_FnSmith.f k l0 l1=some true
theorem laws_FnSmith.walk (P:laws_FnSmith.Pure) (a0:Option Addr) (len0 cap0:Nat) (z0:List Int) (a1:Option Addr) (len1 cap1:Nat) (z1:List Int) (w:World) (w0:(a0=none∧len0=0∧cap0=0∧z0=[])∨∃ x,a0=some x∧len0≤cap0∧cap0≤maxLen∧z0.length=cap0∧(∀ i,i<z0.length→w.cell? (x.add i)=some (.int .u8 (z0.getD i 0)))∧∀ n ∈ z0,(Lit.int .u8 n).wf=true) (y0:len0 * 1≤140737488351232) (w1:(a1=none∧len1=0∧cap1=0∧z1=[])∨∃ x,a1=some x∧len1≤cap1∧cap1≤maxLen∧z1.length=cap1∧(∀ i,i<z1.length→w.cell? (x.add i)=some (.int .u8 (z1.getD i 0)))∧∀ n ∈ z1,(Lit.int .u8 n).wf=true) (y1:len1 * 1≤140737488351232) :
    Calls Try.prog 7 #[.slice a0 len0 cap0,.slice a1 len1 cap1] w fun e w'=>e= .returned (.bool true)∧Below w.heap.size w w':=by
  obtain ⟨l0,rfl,hr0,hm0,hw0,hc0⟩:=ReadsInt.ofRowC w0;obtain ⟨l1,rfl,hr1,hm1,hw1,hc1⟩:=ReadsInt.ofRowC w1;obtain ⟨k,h⟩:=P l0 l1 hm0 y0 hw0 hm1 y1 hw1;refine (laws_FnSmith.calls k _ _ l0 _ _ l1 true w (Kd.C_of_reads (d:=(0:Int)) (h1:=fun _=>rfl) hr0) hc0 (Kd.C_of_reads (d:=(0:Int)) (h1:=fun _=>rfl) hr1) hc1 h).mono ?_
  rintro e w' ⟨rfl,hd⟩
  exact ⟨rfl,hd⟩
end Go.Proofs.Ytneojimdhnhkeaa.Print
namespace Go.Proofs.Ytneojimdhnhkeaa.Pure
open Go.RowKit Go.Proofs.Ytneojimdhnhkeaa.Print Go.Proofs.YtneojimdhnhkeaaW.PrintWords Go.Proofs.YtneojimdhnhkeaaW.PrintLast Go.Proofs.YtneojimdhnhkeaaW.PrintMore

theorem Ev.of_eq {α : Type} {g : Nat → Option α} {r : α} (h : ∀ k, g k = some r) : Ev g r := ⟨0, fun k _ => h k⟩
theorem Ev.bind0 {α β : Type} {o : Option α} {f : Nat → α → Option β} {a : α} {r : β} (h : o = some a) (k : Ev (fun n => f n a) r) : Ev (fun n => o.bind (f n)) r := by
  subst h; exact k
theorem Ev.pos {α : Type} {c : Prop} [Decidable c] {g f : Nat → Option α} {r : α} (h : c) (k : Ev g r) : Ev (fun n => if c then g n else f n) r := by
  simpa only [if_pos h] using k
theorem Ev.neg {α : Type} {c : Prop} [Decidable c] {g f : Nat → Option α} {r : α} (h : ¬ c) (k : Ev f r) : Ev (fun n => if c then g n else f n) r := by
  simpa only [if_neg h] using k
theorem Ev.ite {α : Type} {c : Prop} [Decidable c] {g f : Nat → Option α} {r : α} (h : c → Ev g r) (k : ¬ c → Ev f r) : Ev (fun n => if c then g n else f n) r := by
  by_cases hc : c
  · exact Ev.pos hc (h hc)
  · exact Ev.neg hc (k hc)
theorem Ev.step0 {α : Type} {g f : Nat → Option α} {r : α} (k : Ev f r) (h : ∀ k, g (k + 1) = f k) : Ev g r := Ev.step h k
theorem Ev.to {α : Type} {g : Nat → Option α} {r s : α} (k : Ev g r) (h : r = s) : Ev g s := h ▸ k
theorem ev_up {β : Type} (n : Nat) (g : Nat → Nat → Option β) (r : β) (I : Nat → Prop) (h0 : I 0)
    (hend : I n → Ev (fun k => g k n) r) (hstep : ∀ i, i < n → I i → (I (i + 1) → Ev (fun k => g k (i + 1)) r) → Ev (fun k => g k i) r) : Ev (fun k => g k 0) r := by
  have h : ∀ d i, i + d = n → I i → Ev (fun k => g k i) r := by
    intro d
    induction d with
    | zero => intro i hi hI; obtain rfl : i = n := by omega
              exact hend hI
    | succ d ih => intro i hi hI; exact hstep i (by omega) hI fun hI' => ih (i + 1) (by omega) hI'
  exact h n 0 (by omega) h0
theorem w64 {x : Int} (h1 : -9223372036854775808 ≤ x) (h2 : x < 9223372036854775808) : wrap64 x = x := by unfold wrap64; omega
theorem rd_nat (l : List Int) (i : Nat) (h : i < l.length) : rd l (i : Int) = l[i] := by simp [rd, h]
theorem toNat_nat (i : Nat) : ((i : Int)).toNat = i := Int.toNat_natCast i
def allIn (l : List Int) (lo hi : Int) : Bool := l.all fun x => decide (lo ≤ x) && decide (x ≤ hi)
theorem all_take_false {α : Type} (l : List α) (p : α → Bool) (i : Nat) (h : i < l.length) (hp : p l[i] = false) : l.all p = false := by
  rw [List.all_eq_false]; exact ⟨l[i], List.getElem_mem h, by simp [hp]⟩
theorem all_take_succ {α : Type} (l : List α) (p : α → Bool) (i : Nat) (h : i < l.length) (ht : (l.take i).all p = true) (hp : p l[i] = true) : (l.take (i + 1)).all p = true := by
  rw [List.take_succ_eq_append_getElem h, List.all_append, ht]; simp [hp]
theorem sum_bounds (l : List Int) (lo hi : Int) (h : ∀ x ∈ l, lo ≤ x ∧ x ≤ hi) : lo * l.length ≤ l.sum ∧ l.sum ≤ hi * l.length := by
  induction l with
  | nil => simp
  | cons a l ih =>
    have h1 := h a (by simp)
    have h2 := ih fun x hx => h x (by simp [hx])
    simp only [List.sum_cons, List.length_cons]
    have e1 : lo * ((l.length + 1 : Nat) : Int) = lo * l.length + lo := by push_cast; rw [Int.mul_add]; simp
    have e2 : hi * ((l.length + 1 : Nat) : Int) = hi * l.length + hi := by push_cast; rw [Int.mul_add]; simp
    rw [e1, e2]; omega
theorem Ev.succ {α : Type} {g : Nat → Option α} {r : α} (h : Ev (fun k => g (k + 1)) r) : Ev g r := Ev.step (fun _ => rfl) h
theorem exists_nat_of_nonneg {x : Int} (h : 0 ≤ x) : ∃ n : Nat, x = n := ⟨x.toNat, by omega⟩

def bytesOk (l : List Int) : Prop := ∀ x ∈ l, 0 ≤ x ∧ x ≤ 255
theorem wf_u8 {x : Int} (h : (Lit.int .u8 x).wf = true) : 0 ≤ x ∧ x ≤ 255 := by
  have h' : decide (IntKind.u8.min ≤ x) && decide (x ≤ IntKind.u8.max) := h
  simp only [Bool.and_eq_true, decide_eq_true_eq] at h'
  have e1 : IntKind.u8.min = 0 := by decide
  have e2 : IntKind.u8.max = 255 := by decide
  omega
theorem bytesOk_of (l : List Int) (h : ∀ x ∈ l, (Lit.int .u8 x).wf = true) : bytesOk l := fun x hx => wf_u8 (h x hx)
theorem u64_range (x : Int) : 0 ≤ IntKind.u64.wrap x ∧ IntKind.u64.wrap x < 18446744073709551616 := by
  have e : IntKind.u64.wrap x = x % 18446744073709551616 := by simp [IntKind.wrap, IntKind.bits, IntKind.signed]
  rw [e]; omega
theorem and_255 (x : Int) (h0 : 0 ≤ x) (h1 : x < 18446744073709551616) : 0 ≤ Go.bits .and .u64 x 255 ∧ Go.bits .and .u64 x 255 ≤ 255 := by
  obtain ⟨n, rfl⟩ := exists_nat_of_nonneg h0
  have e : Go.bits .and .u64 (n : Int) ((255 : Nat) : Int) = ((n &&& 255 : Nat) : Int) := u64_and_nat n 255 (by omega) (by omega)
  have h2 : n &&& 255 ≤ 255 := Nat.and_le_right
  have e' : Go.bits .and .u64 (n : Int) 255 = ((n &&& 255 : Nat) : Int) := e
  rw [e']; omega
theorem rd_mem_or (l : List Int) (i : Int) (h0 : 0 ≤ i) (h : i < l.length) : rd l i ∈ l := by
  obtain ⟨n, rfl⟩ := exists_nat_of_nonneg h0
  rw [rd_nat l n (by omega)]; exact List.getElem_mem _

theorem cur_next (l : List Int) (a s : Int) (hl : bytesOk l) (ha : 0 ≤ a ∧ a ≤ 4611686018427387904) :
    ∃ b s', spec_l1Cur_next.f l a s = some (b, a + 1, s') ∧ 0 ≤ b ∧ b ≤ 255 := by
  have hmask : ∀ y : Int, 0 ≤ wrap64 (Go.bits .and .u64 ((IntKind.u64.wrap y) / 1099511627776) 255) ∧ wrap64 (Go.bits .and .u64 ((IntKind.u64.wrap y) / 1099511627776) 255) ≤ 255 := fun y => by
    have h1 := u64_range y
    have h2 := and_255 ((IntKind.u64.wrap y) / 1099511627776) (by omega) (by omega)
    rw [w64 (by omega) (by omega)]; exact h2
  unfold spec_l1Cur_next.f
  rw [w64 (x := a + 1) (by omega) (by omega)]
  by_cases h1 : a < (l.length : Int)
  · have hb := hl _ (rd_mem_or l a ha.1 h1)
    rw [if_pos h1, if_pos ha.1]
    by_cases h2 : a + 1 ≤ (l.length : Int)
    · rw [if_pos h2]; exact ⟨_, _, rfl, by rw [w64 (by omega) (by omega)]; exact hb⟩
    · rw [if_neg h2]; exact ⟨_, _, rfl, hmask _⟩
  · rw [if_neg h1]
    by_cases h2 : a + 1 ≤ (l.length : Int)
    · rw [if_pos h2]; exact ⟨_, _, rfl, by omega⟩
    · rw [if_neg h2]; exact ⟨_, _, rfl, hmask _⟩

theorem cur_pick (l : List Int) (a s n : Int) (hl : bytesOk l) (ha : 0 ≤ a ∧ a ≤ 4611686018427387900) :
    ∃ r a' s', spec_l1Cur_pick.f l a s n = some (r, a', s') ∧ 0 ≤ r ∧ (r < n ∨ n ≤ 1 ∧ r = 0) ∧ a ≤ a' ∧ a' ≤ a + 2 := by
  unfold spec_l1Cur_pick.f
  by_cases h : n ≤ 1
  · rw [if_pos h]; exact ⟨0, a, s, rfl, by omega, .inr ⟨h, rfl⟩, by omega, by omega⟩
  · rw [if_neg h]
    obtain ⟨b, s1, e1, hb⟩ := cur_next l a s hl (by omega)
    rw [e1]; simp only [Option.bind_some]
    by_cases h2 : n > 200
    · rw [if_pos h2]
      obtain ⟨c, s2, e2, hc⟩ := cur_next l (a + 1) s1 hl (by omega)
      rw [e2]; simp only [Option.bind_some]; rw [if_neg (by omega), w64 (x := b * 256) (by omega) (by omega), w64 (by omega) (by omega)]
      exact ⟨_, _, _, rfl, Int.tmod_nonneg _ (by omega), .inl (Int.tmod_lt_of_pos _ (by omega)), by omega, by omega⟩
    · rw [if_neg h2, if_neg (by omega)]
      exact ⟨_, _, _, rfl, Int.tmod_nonneg _ (by omega), .inl (Int.tmod_lt_of_pos _ (by omega)), by omega, by omega⟩

theorem cur_one (l : List Int) (a s n : Int) (hl : bytesOk l) (ha : 0 ≤ a ∧ a ≤ 4611686018427387900) :
    ∃ r a' s', spec_l1Cur_one.f l a s n = some (r, a', s') ∧ a ≤ a' ∧ a' ≤ a + 2 := by
  unfold spec_l1Cur_one.f
  obtain ⟨r, a', s', e, h0, h1, h2, h3⟩ := cur_pick l a s n hl ha
  rw [e]; exact ⟨_, _, _, rfl, h2, h3⟩

theorem cur_among (l : List Int) (a s : Int) (l1 : List Int) (hl : bytesOk l) (ha : 0 ≤ a ∧ a ≤ 4611686018427387900) (h1 : 0 < l1.length) :
    ∃ r a' s', spec_l1Cur_among.f l a s l1 = some (r, a', s') ∧ r ∈ l1 ∧ a ≤ a' ∧ a' ≤ a + 2 := by
  unfold spec_l1Cur_among.f
  obtain ⟨r, a', s', e, h2, h3, h4, h5⟩ := cur_pick l a s (l1.length : Int) hl ha
  have h6 : r < (l1.length : Int) := by omega
  rw [e]; simp only [Option.bind_some]; rw [if_pos h2, if_pos h6]
  exact ⟨_, _, _, rfl, rd_mem_or l1 r h2 h6, h4, h5⟩

theorem spec_l1In_eq (n lo hi : Int) : spec_l1In.f n lo hi = some (decide (lo ≤ n) && decide (n ≤ hi)) := by
  unfold spec_l1In.f
  by_cases h : n ≥ lo
  · rw [if_pos h, decide_eq_true (show lo ≤ n from h)]; simp
  · rw [if_neg h, decide_eq_false (show ¬ lo ≤ n from h)]; simp

theorem impl_within_eq (n lo hi : Int) : impl_within.f n lo hi = some (decide (lo ≤ n) && decide (n ≤ hi)) := by
  unfold impl_within.f
  by_cases h : n ≥ lo
  · rw [if_pos h, decide_eq_true (show lo ≤ n from h)]; simp
  · rw [if_neg h, decide_eq_false (show ¬ lo ≤ n from h)]; simp

def lowNum (a b : Int) : Int := if b < 0 then Int.tdiv (-a) (Int.gcd a b) else Int.tdiv a (Int.gcd a b)
def lowDen (a b : Int) : Int := if b < 0 then Int.tdiv (-b) (Int.gcd a b) else Int.tdiv b (Int.gcd a b)
def goodFrac (a b : Int) : Bool := decide (-1000000000 ≤ a) && decide (a ≤ 1000000000) && (decide (1 ≤ b) && decide (b ≤ 1000000000)) && decide (Int.gcd a b = 1)

theorem w64n {i n : Nat} (h : i < n) (hn : n ≤ 4611686018427387904) : wrap64 ((i : Int) + 1) = ((i + 1 : Nat) : Int) := by rw [w64 (by omega) (by omega)]; rfl
theorem ev_indexFunc {α : Type} (l : List α) (rdx : Int → α) (hr : ∀ (i : Nat) (h : i < l.length), rdx (i : Int) = l[i]) (c : Nat → α → Option Bool) (p : α → Bool)
    (hc : ∀ x ∈ l, Ev (fun k => c k x) (p x)) (g : Nat → Int → Option Int)
    (hg : ∀ k i, g (k + 1) i = if i < (l.length : Int) then (if 0 ≤ i then (if i < (l.length : Int) then ((c k (rdx i)).bind fun t => if t = true then some i else g k (wrap64 (i + 1))) else none) else none) else some (-1))
    (hl : l.length ≤ 4611686018427387904) : ∃ j : Int, decide (j ≥ 0) = l.any p ∧ Ev (fun k => g k 0) j := by
  have gen : ∀ (d i : Nat), i + d = l.length → ∃ j : Int, decide (j ≥ 0) = (l.drop i).any p ∧ Ev (fun k => g k (i : Int)) j := by
    intro d
    induction d with
    | zero =>
      intro i hi
      refine ⟨-1, by rw [List.drop_of_length_le (by omega)]; rfl, Ev.step0 (Ev.of_eq fun _ => rfl) fun k => ?_⟩
      rw [hg, if_neg (by omega)]
    | succ d ih =>
      intro i hi
      have hi' : i < l.length := by omega
      have hd : (l.drop i).any p = (p l[i] || (l.drop (i + 1)).any p) := by rw [List.drop_eq_getElem_cons hi', List.any_cons]
      have hcx := hc l[i] (List.getElem_mem hi')
      cases hp : p l[i] with
      | true =>
        refine ⟨i, by rw [hd, hp]; simp, Ev.step (fun k => hg k _) (Ev.pos (by omega) (Ev.pos (by omega) (Ev.pos (by omega) ?_)))⟩
        rw [hr i hi']
        exact Ev.bind hcx (Ev.pos hp (Ev.now _))
      | false =>
        obtain ⟨j, hj, hev⟩ := ih (i + 1) (by omega)
        refine ⟨j, by rw [hd, hp, hj]; rfl, Ev.step (fun k => hg k _) (Ev.pos (by omega) (Ev.pos (by omega) (Ev.pos (by omega) ?_)))⟩
        rw [hr i hi', w64 (by omega) (by omega)]
        exact Ev.bind hcx (Ev.neg (by rw [hp]; simp) hev)
  have := gen l.length 0 (by omega)
  simpa using this
theorem any_not_all {α : Type} (l : List α) (p : α → Bool) : l.any (fun x => !p x) = !(l.all p) := by
  induction l with
  | nil => rfl
  | cons a l ih => simp [ih]
theorem spec_l1Has_ev (l : List Int) (a : Int) (hl : l.length ≤ 4611686018427387904) : Ev (fun k => spec_l1Has.f k l a) (decide (a ∈ l)) := by
  unfold spec_l1Has.f
  have gen : ∀ (d i : Nat), i + d = l.length → Ev (fun k => spec_l1Has.l0 k a l (l.length : Int) (i : Int)) (decide (a ∈ l.drop i)) := by
    intro d
    induction d with
    | zero =>
      intro i hi
      rw [List.drop_of_length_le (by omega)]
      refine Ev.succ ?_
      simp only [spec_l1Has.l0]; exact Ev.neg (by omega) (Ev.now _)
    | succ d ih =>
      intro i hi
      have hi' : i < l.length := by omega
      rw [List.drop_eq_getElem_cons hi']
      refine Ev.succ ?_
      simp only [spec_l1Has.l0]
      refine Ev.pos (by omega) (Ev.pos (by omega) (Ev.pos (by omega) ?_))
      rw [rd_nat l i hi', w64 (by omega) (by omega)]
      refine Ev.ite (fun h => ?_) (fun h => ?_)
      · rw [h]; simpa using Ev.now true
      · have := ih (i + 1) (by omega)
        have e : decide (a ∈ l[i] :: l.drop (i + 1)) = decide (a ∈ l.drop (i + 1)) := by
          rw [decide_eq_decide, List.mem_cons]; constructor
          · rintro (h2 | h2)
            · exact absurd h2.symm h
            · exact h2
          · exact .inr
        rw [e]; exact this
  simpa using gen l.length 0 (by omega)

def wayOf (a b c d : Int) : Int := if a = c then ((b - d).natAbs : Int) else 3 * ((a - c).natAbs : Int) + (if 40 - (b + d) < b + d then 40 - (b + d) else b + d)
def spotOk (a b : Int) : Bool := (decide (0 ≤ a) && decide (a ≤ 9)) && (decide (0 ≤ b) && decide (b ≤ 20))

theorem laws_sameInts_ev (a b : List Int) (hl : a.length ≤ 4611686018427387904) : Ev (fun k => laws_sameInts.f k a b) (decide (a = b)) := by
  unfold laws_sameInts.f
  refine Ev.ite (fun h => ?_) (fun h => ?_)
  · have hlen : a.length = b.length := by omega
    have gen : ∀ (d i : Nat), i + d = a.length → Ev (fun k => laws_sameInts.l0 k a b (a.length : Int) (i : Int)) (decide (a.drop i = b.drop i)) := by
      intro d
      induction d with
      | zero =>
        intro i hi
        rw [List.drop_of_length_le (by omega), List.drop_of_length_le (by omega)]
        refine Ev.succ ?_
        simp only [laws_sameInts.l0]; exact Ev.neg (by omega) (by simpa using Ev.now true)
      | succ d ih =>
        intro i hi
        have hi' : i < a.length := by omega
        have hi2 : i < b.length := by omega
        rw [List.drop_eq_getElem_cons hi', List.drop_eq_getElem_cons hi2]
        refine Ev.succ ?_
        simp only [laws_sameInts.l0]
        refine Ev.pos (by omega) (Ev.pos (by omega) (Ev.pos (by omega) (Ev.pos (by omega) ?_)))
        rw [rd_nat a i hi', rd_nat b i hi2, w64n hi' (by omega)]
        refine Ev.ite (fun h => ?_) (fun h => ?_)
        · have e : decide (a[i] :: a.drop (i + 1) = b[i] :: b.drop (i + 1)) = decide (a.drop (i + 1) = b.drop (i + 1)) := by
            rw [decide_eq_decide, h]; exact ⟨fun h => (List.cons.inj h).2, fun h => by rw [h]⟩
          rw [e]; exact ih (i + 1) (by omega)
        · have e : decide (a[i] :: a.drop (i + 1) = b[i] :: b.drop (i + 1)) = false := by
            rw [decide_eq_false_iff_not]; intro h2; injection h2 with h3; exact h h3
          rw [e]; exact Ev.now _
    simpa using gen a.length 0 (by omega)
  · have e : decide (a = b) = false := by rw [decide_eq_false_iff_not]; rintro rfl; exact h rfl
    rw [e]; exact Ev.now _

def flowOk (flow : List Int) : Bool := decide (1 ≤ (flow.length : Int)) && decide ((flow.length : Int) ≤ 8) && allIn flow 1 30
def countsOk (flow counts : List Int) : Bool := flowOk flow && (decide ((counts.length : Int) = (flow.length : Int)) && (allIn counts 1 40 && decide (counts.sum ≤ 40)))
def gn (f c : Int) : Int := lowNum f (c * (c + 1))
def gd (f c : Int) : Int := lowDen f (c * (c + 1))
theorem mul_small {a b m n : Int} (ha : 0 ≤ a ∧ a ≤ m) (hb : 0 ≤ b ∧ b ≤ n) : 0 ≤ a * b ∧ a * b ≤ m * n :=
  ⟨Int.mul_nonneg ha.1 hb.1, Int.mul_le_mul ha.2 hb.2 hb.1 (by omega)⟩
def bestUp (lt : Nat → Nat → Bool) : Nat → Nat
  | 0 => 0
  | i + 1 => if lt (bestUp lt i) i = true then i else bestUp lt i
def gainLt (flow counts : List Int) (b i : Nat) : Bool := decide (gn flow[b]! counts[b]! * gd flow[i]! counts[i]! < gn flow[i]! counts[i]! * gd flow[b]! counts[b]!)
def nextOf (flow counts : List Int) : Nat := bestUp (gainLt flow counts) flow.length

def ins (lt : Int → Int → Bool) (x : Int) (l : List Int) : List Int := l.takeWhile (fun y => !lt x y) ++ x :: l.dropWhile (fun y => !lt x y)
def isl (lt : Int → Int → Bool) (l : List Int) : List Int := l.foldl (fun s x => ins lt x s) []
theorem isl_take_succ (lt : Int → Int → Bool) (l : List Int) (i : Nat) (h : i < l.length) : isl lt (l.take (i + 1)) = ins lt l[i] (isl lt (l.take i)) := by
  unfold isl; rw [List.take_succ_eq_append_getElem h, List.foldl_append, List.foldl_cons, List.foldl_nil]
theorem ins_perm (lt : Int → Int → Bool) (x : Int) (l : List Int) : (ins lt x l).Perm (x :: l) := by
  unfold ins; refine List.perm_middle.trans ?_; rw [List.takeWhile_append_dropWhile]
theorem foldl_ins_perm (lt : Int → Int → Bool) (l : List Int) : ∀ s : List Int, (l.foldl (fun s x => ins lt x s) s).Perm (s ++ l) := by
  induction l with
  | nil => intro s; simp
  | cons a l ih =>
    intro s
    rw [List.foldl_cons]
    exact (ih _).trans (((ins_perm lt a s).append_right l).trans List.perm_middle.symm)
theorem isl_perm (lt : Int → Int → Bool) (l : List Int) : (isl lt l).Perm l := by simpa [isl] using foldl_ins_perm lt l []
theorem isl_length (lt : Int → Int → Bool) (l : List Int) : (isl lt l).length = l.length := (isl_perm lt l).length_eq
theorem ins_split (lt : Int → Int → Bool) (x : Int) (A B : List Int) (hA : ∀ a ∈ A, lt x a = false) (hB : ∀ b ∈ B, lt x b = true) : ins lt x (A ++ B) = A ++ x :: B := by
  unfold ins
  rw [List.takeWhile_append_of_pos (fun a ha => by simp [hA a ha]), List.dropWhile_append_of_pos (fun a ha => by simp [hA a ha])]
  cases B with
  | nil => simp
  | cons b B => have := hB b (by simp); simp [this]
structure Weak (lt : Int → Int → Bool) (P : Int → Prop) : Prop where
  nt : ∀ a b c, P a → P b → P c → lt a b = false → lt b c = false → lt a c = false
  asy : ∀ a b, P a → P b → lt a b = true → lt b a = false
theorem ins_sorted {lt : Int → Int → Bool} {P : Int → Prop} (hw : Weak lt P) {x : Int} {s : List Int} (hx : P x) (hs : ∀ y ∈ s, P y) (h : s.Pairwise fun a b => lt b a = false) : (ins lt x s).Pairwise fun a b => lt b a = false := by
  unfold ins
  have hA : ∀ a ∈ s.takeWhile (fun y => !lt x y), lt x a = false := fun a ha => by
    have := List.all_eq_true.mp (List.all_takeWhile (p := fun y => !lt x y) (l := s)) a ha
    simpa using this
  have e : s.takeWhile (fun y => !lt x y) ++ s.dropWhile (fun y => !lt x y) = s := List.takeWhile_append_dropWhile
  have hd : ∀ B, s.dropWhile (fun y => !lt x y) = B → (match B with | [] => True | b :: _ => lt x b = true) := by
    intro B hB
    cases B with
    | nil => trivial
    | cons b B =>
      have := List.head?_dropWhile_not (fun y => !lt x y) s
      rw [hB] at this
      simpa using this
  revert hA e hd
  generalize s.takeWhile (fun y => !lt x y) = A
  generalize s.dropWhile (fun y => !lt x y) = B
  intro hA e hd
  subst e
  rw [List.pairwise_append] at h
  have hB : ∀ b ∈ B, lt x b = true := by
    intro b hb
    cases B with
    | nil => simp at hb
    | cons b0 B =>
      have h0 : lt x b0 = true := hd _ rfl
      rcases List.mem_cons.mp hb with rfl | hb
      · exact h0
      · have h1 := (List.pairwise_cons.mp h.2.1).1 b hb
        cases h2 : lt x b with
        | true => rfl
        | false => have := hw.nt x b b0 hx (hs _ (by simp [hb])) (hs _ (by simp)) h2 h1; rw [this] at h0; cases h0
  rw [List.pairwise_append]
  refine ⟨h.1, List.pairwise_cons.mpr ⟨fun b hb => hw.asy _ _ hx (hs _ (by simp [hb])) (hB b hb), h.2.1⟩, fun a ha y hy => ?_⟩
  rcases List.mem_cons.mp hy with rfl | hy
  · exact hA a ha
  · exact h.2.2 a ha y hy
theorem isl_sorted {lt : Int → Int → Bool} {P : Int → Prop} (hw : Weak lt P) (l : List Int) (hl : ∀ y ∈ l, P y) (i : Nat) (hi : i ≤ l.length) : (isl lt (l.take i)).Pairwise fun a b => lt b a = false := by
  induction i with
  | zero => simp [isl]
  | succ i ih =>
    rw [isl_take_succ lt l i (by omega)]
    exact ins_sorted hw (hl _ (List.getElem_mem _)) (fun y hy => hl y (List.mem_of_mem_take ((isl_perm lt _).mem_iff.mp hy))) (ih (by omega))
theorem rd_app (A C : List Int) (x : Int) : rd (A ++ x :: C) (A.length : Int) = x := by
  rw [rd_nat _ _ (by simp)]; simp
theorem swap_app (A C : List Int) (y x : Int) : ((A ++ [y] ++ x :: C).set (A.length + 1) y).set A.length x = A ++ x :: y :: C := by
  rw [List.append_assoc, List.set_append_right _ _ (by omega), show A.length + 1 - A.length = 1 by omega]
  rw [List.set_append_right _ _ (Nat.le_refl _), Nat.sub_self]
  simp
structure Inserts (cmp : Int → Int → Option Int) (n : Nat) (g0 : Nat → List Int → Int → Option (List Int)) (g1 : Nat → List Int → Int → Int → Option (List Int)) : Prop where
  h0 : ∀ k x i, g0 (k + 1) x i = if i < (n : Int) then g1 k x i i else some x
  h1 : ∀ k (x : List Int) (i j : Int), g1 (k + 1) x i j = if j > 0 then (if 0 ≤ j then (if j < (x.length : Int) then (if 0 ≤ (wrap64 (j - 1)) then (if (wrap64 (j - 1)) < (x.length : Int) then ((cmp (rd x j) (rd x (wrap64 (j - 1)))).bind fun t => (if t < 0 then (g1 k ((x.set (j : Int).toNat (rd x (wrap64 (j - 1)))).set ((wrap64 (j - 1)) : Int).toNat (rd x j)) i (wrap64 (j - 1))) else (g0 k x (wrap64 (i + 1))))) else (none)) else (none)) else (none)) else (none)) else (g0 k x (wrap64 (i + 1)))
theorem inserts_in {cmp : Int → Int → Option Int} {n : Nat} {g0 : Nat → List Int → Int → Option (List Int)} {g1 : Nat → List Int → Int → Int → Option (List Int)} (hg : Inserts cmp n g0 g1) {lt : Int → Int → Bool} {P : Int → Prop} (hw : Weak lt P)
    (hc : ∀ a b, P a → P b → ∃ t, cmp a b = some t ∧ lt a b = decide (t < 0)) (x i : Int) (D : List Int) (r : List Int) (hx : P x) (j : Nat) : ∀ (A B : List Int), A.length = j → j ≤ 1048576 → (∀ y ∈ A, P y) → (A.Pairwise fun a b => lt b a = false) → (∀ b ∈ B, lt x b = true) →
      Ev (fun k => g0 k (ins lt x (A ++ B) ++ D) (wrap64 (i + 1))) r → Ev (fun k => g1 k (A ++ x :: (B ++ D)) i (j : Int)) r := by
  induction j with
  | zero =>
    intro A B hA _ hP hs hB hd
    obtain rfl : A = [] := List.length_eq_zero_iff.mp hA
    refine Ev.succ ?_
    simp only [hg.h1]
    refine Ev.neg (by omega) ?_
    rw [ins_split lt x [] B (by simp) hB] at hd
    simpa using hd
  | succ j ih =>
    intro A B hA hj hP hs hB hd
    obtain ⟨A', y, rfl⟩ : ∃ A' y, A = A' ++ [y] := ⟨A.dropLast, A.getLast (by intro h; simp [h] at hA), (List.dropLast_concat_getLast _).symm⟩
    have hA' : A'.length = j := by simpa using hA
    refine Ev.succ ?_
    simp only [hg.h1]
    have hl : (A' ++ [y] ++ x :: (B ++ D)).length = j + 1 + (1 + (B ++ D).length) := by simp [hA']; omega
    rw [w64 (x := ((j + 1 : Nat) : Int) - 1) (by omega) (by omega), show ((j + 1 : Nat) : Int) - 1 = (j : Int) by omega]
    have r1 : rd (A' ++ [y] ++ x :: (B ++ D)) ((j + 1 : Nat) : Int) = x := by
      have := rd_app (A' ++ [y]) (B ++ D) x
      rw [hA] at this; exact this
    have r2 : rd (A' ++ [y] ++ x :: (B ++ D)) (j : Int) = y := by
      have := rd_app A' (x :: (B ++ D)) y
      rw [hA'] at this; simpa using this
    rw [r1, r2]
    obtain ⟨t, ht, hlt⟩ := hc x y hx (hP y (by simp))
    refine Ev.pos (by omega) (Ev.pos (by omega) (Ev.pos (by rw [hl]; omega) (Ev.pos (by omega) (Ev.pos (by rw [hl]; omega) (Ev.bind0 ht ?_)))))
    refine Ev.ite (fun h => ?_) (fun h => ?_)
    · rw [toNat_nat, toNat_nat, ← hA', swap_app, hA']
      have := ih A' (y :: B) hA' (by omega) (fun z hz => hP z (by simp [hz])) (List.pairwise_append.mp hs).1 (fun b hb => by
        rcases List.mem_cons.mp hb with rfl | hb
        · rw [hlt, decide_eq_true h]
        · exact hB b hb) (by simpa using hd)
      simpa using this
    · have hy : lt x y = false := by rw [hlt, decide_eq_false h]
      rw [ins_split lt x _ B (fun a ha => by
        rcases List.mem_append.mp ha with ha | ha
        · exact hw.nt x y a hx (hP y (by simp)) (hP a (by simp [ha])) hy ((List.pairwise_append.mp hs).2.2 a ha y (by simp))
        · obtain rfl : a = y := by simpa using ha
          exact hy) hB] at hd
      simpa using hd
theorem inserts_ev {cmp : Int → Int → Option Int} {n : Nat} {g0 : Nat → List Int → Int → Option (List Int)} {g1 : Nat → List Int → Int → Int → Option (List Int)} (hg : Inserts cmp n g0 g1) {lt : Int → Int → Bool} {P : Int → Prop} (hw : Weak lt P)
    (hc : ∀ a b, P a → P b → ∃ t, cmp a b = some t ∧ lt a b = decide (t < 0)) (l : List Int) (hn : l.length = n) (hl : n ≤ 1048576) (hP : ∀ y ∈ l, P y) : Ev (fun k => g0 k l 1) (isl lt l) := by
  rcases Nat.eq_zero_or_pos n with h0 | h0
  · refine Ev.succ ?_
    simp only [hg.h0]
    obtain rfl : l = [] := List.length_eq_zero_iff.mp (by omega)
    exact Ev.neg (by omega) (Ev.now _)
  have key := ev_up (n - 1) (fun k i => g0 k (isl lt (l.take (i + 1)) ++ l.drop (i + 1)) ((i + 1 : Nat) : Int)) (isl lt l) (fun _ => True) trivial ?_ ?_
  · rw [isl_take_succ lt l 0 (by omega)] at key
    have e : ins lt l[0] (isl lt (l.take 0)) ++ l.drop (0 + 1) = l := by
      simp only [List.take_zero, isl, List.foldl_nil, ins, List.takeWhile_nil, List.dropWhile_nil, List.nil_append, Nat.zero_add]
      rw [List.singleton_append, ← List.drop_eq_getElem_cons (by omega), List.drop_zero]
    rw [e] at key
    exact key
  · intro _
    refine Ev.succ ?_
    simp only [hg.h0]
    rw [show n - 1 + 1 = n by omega, ← hn, List.take_length, List.drop_length, List.append_nil]
    exact Ev.neg (by omega) (Ev.now _)
  · intro i hi _ hnx
    have hi' : i + 1 < l.length := by omega
    refine Ev.succ ?_
    simp only [hg.h0]
    refine Ev.pos (by omega) ?_
    rw [List.drop_eq_getElem_cons hi']
    have hlen : (isl lt (l.take (i + 1))).length = i + 1 := by rw [isl_length, List.length_take]; omega
    have := inserts_in hg hw hc l[i + 1] ((i + 1 : Nat) : Int) (l.drop (i + 1 + 1)) (isl lt l) (hP _ (List.getElem_mem _)) (i + 1) (isl lt (l.take (i + 1))) [] hlen (by omega)
      (fun y hy => hP y (List.mem_of_mem_take ((isl_perm lt _).mem_iff.mp hy))) (isl_sorted hw l hP (i + 1) (by omega)) (by simp) (by
        rw [List.append_nil, ← isl_take_succ lt l (i + 1) hi', w64 (by omega) (by omega)]
        exact hnx trivial)
    simpa using this

theorem isl_snoc (lt : Int → Int → Bool) (l : List Int) (x : Int) : isl lt (l ++ [x]) = ins lt x (isl lt l) := by
  unfold isl; rw [List.foldl_append, List.foldl_cons, List.foldl_nil]
def idx (n : Nat) : List Int := (List.range n).map fun (j : Nat) => (j : Int)
theorem idx_length (n : Nat) : (idx n).length = n := by simp [idx]
theorem idx_succ (n : Nat) : idx (n + 1) = idx n ++ [(n : Int)] := by simp [idx, List.range_succ]
theorem mem_idx (n : Nat) (x : Int) : x ∈ idx n ↔ 0 ≤ x ∧ x < (n : Int) := by
  simp only [idx, List.mem_map, List.mem_range]
  constructor
  · rintro ⟨a, h, rfl⟩; omega
  · rintro ⟨h1, h2⟩; exact ⟨x.toNat, by omega, by omega⟩
theorem isl_idx_mem (lt : Int → Int → Bool) (n : Nat) {x : Int} (h : x ∈ isl lt (idx n)) : 0 ≤ x ∧ x < (n : Int) := (mem_idx n x).mp ((isl_perm lt _).mem_iff.mp h)
theorem isl_idx_length (lt : Int → Int → Bool) (n : Nat) : (isl lt (idx n)).length = n := by rw [isl_length, idx_length]
theorem span_spec (p : Int → Bool) (s : List Int) : ∃ K, K ≤ s.length ∧ s.takeWhile p = s.take K ∧ s.dropWhile p = s.drop K ∧ (∀ j, ∀ h : j < s.length, j < K → p s[j] = true) ∧ (∀ h : K < s.length, p s[K] = false) := by
  induction s with
  | nil => exact ⟨0, by simp⟩
  | cons a s ih =>
    cases ha : p a with
    | true =>
      obtain ⟨K, h1, h2, h3, h4, h5⟩ := ih
      refine ⟨K + 1, by simp; omega, by simp [ha, h2], by simp [ha, h3], ?_, ?_⟩
      · intro j h hj
        cases j with
        | zero => exact ha
        | succ j => exact h4 j (by simpa using h) (by omega)
      · intro h; exact h5 (by simpa using h)
    | false =>
      refine ⟨0, by simp, by simp [ha], by simp [ha], ?_, ?_⟩
      · intro j h hj; omega
      · intro h; exact ha

def ltDown (values : List Int) (a b : Int) : Bool := decide (rd values b < rd values a)
def ltG (picks counts : List Int) (a b : Int) : Bool := decide (rd picks b * rd counts a < rd picks a * rd counts b)

def dot : List Int → List Int → Int
  | a :: tl_, b :: bs => a * b + dot tl_ bs
  | _, _ => 0
def writeAll : List Int → List Int → List Int → List Int
  | s :: ss, g :: gs, out => writeAll ss gs (out.set s.toNat g)
  | _, _, out => out
theorem rd_setL (l : List Int) (i j : Int) (v : Int) (h0 : 0 ≤ i) (hi : i < l.length) (hj : 0 ≤ j) : rd (l.set i.toNat v) j = if j = i then v else rd l j := by
  obtain ⟨a, rfl⟩ := exists_nat_of_nonneg h0
  obtain ⟨b, rfl⟩ := exists_nat_of_nonneg hj
  rw [toNat_nat]
  have ha : a < l.length := by omega
  rcases Nat.lt_or_ge b l.length with hb | hb
  · rw [rd_nat _ _ (by simpa using hb), rd_nat _ _ hb, List.getElem_set]
    by_cases e : a = b
    · subst e; simp
    · rw [if_neg e, if_neg (by omega)]
  · rw [if_neg (by omega)]; simp [rd, hb]
theorem idx_nodup (n : Nat) : (idx n).Nodup := by
  unfold idx
  refine List.Pairwise.map _ ?_ List.nodup_range
  intro a b h; omega

theorem nodup_sub_perm {l : List Int} : ∀ {r : List Int}, l.Nodup → (∀ x ∈ l, x ∈ r) → r.length ≤ l.length → l.Perm r := by
  induction l with
  | nil =>
    intro r _ _ hl
    obtain rfl : r = [] := List.length_eq_zero_iff.mp (by simpa using hl)
    exact List.Perm.refl _
  | cons a l ih =>
    intro r hn hs hl
    obtain ⟨h1, h2⟩ := List.nodup_cons.mp hn
    obtain ⟨p, q, rfl⟩ := List.append_of_mem (hs a (by simp))
    have : l.Perm (p ++ q) := ih h2 (fun x hx => by
      have h3 := hs x (by simp [hx])
      have hne : x ≠ a := fun e => h1 (e ▸ hx)
      simp only [List.mem_append, List.mem_cons] at h3 ⊢
      rcases h3 with h3 | h3 | h3
      · exact .inl h3
      · exact absurd h3 hne
      · exact .inr h3) (by simp at hl ⊢; omega)
    exact (this.cons a).trans List.perm_middle.symm
theorem sorted_perm_eq : ∀ {a b : List Int}, a.Pairwise (fun x y => x ≤ y) → b.Pairwise (fun x y => x ≤ y) → a.Perm b → a = b
  | [], b, _, _, hp => hp.symm.eq_nil.symm
  | x :: a, [], _, _, hp => absurd hp.eq_nil (by simp)
  | x :: a, y :: b, ha, hb, hp => by
    obtain ⟨h1, h2⟩ := List.pairwise_cons.mp ha
    obtain ⟨h3, h4⟩ := List.pairwise_cons.mp hb
    have e : x = y := by
      have m1 := hp.mem_iff.mp (List.mem_cons_self : x ∈ x :: a)
      have m2 := hp.mem_iff.mpr (List.mem_cons_self : y ∈ y :: b)
      rcases List.mem_cons.mp m1 with e | m1
      · exact e
      · rcases List.mem_cons.mp m2 with e | m2
        · exact e.symm
        · have := h1 y m2; have := h3 x m1; omega
    subst e
    rw [sorted_perm_eq h2 h4 hp.cons_inv]
def isOrd (l : List Int) (m : Int) : Prop := (l.length : Int) = m ∧ l.Perm (idx l.length)
instance (l : List Int) (m : Int) : Decidable (isOrd l m) := by unfold isOrd; infer_instance
theorem idx_asc (n : Nat) : (idx n).Pairwise (fun x y => x ≤ y) := by
  unfold idx
  refine List.Pairwise.map _ ?_ (List.pairwise_lt_range (n := n))
  intro a b h; omega
theorem perm_idx_iff (l : List Int) : l.Perm (idx l.length) ↔ l.Nodup ∧ ∀ x ∈ l, 0 ≤ x ∧ x < (l.length : Int) := by
  constructor
  · intro h
    exact ⟨h.nodup_iff.mpr (idx_nodup _), fun x hx => (mem_idx _ _).mp (h.mem_iff.mp hx)⟩
  · rintro ⟨h1, h2⟩
    exact nodup_sub_perm h1 (fun x hx => (mem_idx _ _).mpr (h2 x hx)) (by rw [idx_length]; exact Nat.le_refl _)
theorem nodup_take_succ (l : List Int) (i : Nat) (h : i < l.length) : (l.take (i + 1)).Nodup ↔ (l.take i).Nodup ∧ l[i] ∉ l.take i := by
  rw [List.take_succ_eq_append_getElem h]
  constructor
  · intro hn
    have := List.pairwise_append.mp hn
    exact ⟨this.1, fun hm => this.2.2 _ hm _ (by simp) rfl⟩
  · rintro ⟨h1, h2⟩
    exact List.pairwise_append.mpr ⟨h1, by simp, fun a ha b hb e => h2 (by have hb' : b = l[i] := by simpa using hb
                                                                           rw [← hb', ← e]; exact ha)⟩

theorem srt_sorted_iff (l : List Int) : srt.sorted l = srt.upNat l.length ↔ l.Perm (idx l.length) := by
  have hp : (srt.sorted l).Perm l := List.mergeSort_perm _ _
  have hs : (srt.sorted l).Pairwise (fun x y => x ≤ y) := by
    have := List.pairwise_mergeSort (le := fun x y : Int => decide (x ≤ y)) (fun a b c h1 h2 => by simp only [decide_eq_true_eq] at h1 h2 ⊢; omega) (fun a b => by simp only [Bool.or_eq_true, decide_eq_true_eq]; omega) l
    exact this.imp (fun h => by simpa using h)
  constructor
  · intro h; exact hp.symm.trans (by rw [h]; exact List.Perm.refl _)
  · intro h; exact sorted_perm_eq hs (idx_asc _) (hp.trans h)
theorem impl_isOrder_eq (l : List Int) (m : Int) (hl : l.length ≤ 1048576) : impl_isOrder.f l m = some (decide (isOrd l m)) := by
  unfold impl_isOrder.f
  rw [if_pos hl]
  congr 1
  rw [Bool.eq_iff_iff, Bool.and_eq_true, decide_eq_true_eq, decide_eq_true_eq, decide_eq_true_eq, srt_sorted_iff]
  exact And.comm

theorem spec_l7Order_ev (l : List Int) (m : Int) (hl : l.length ≤ 1048576) : Ev (fun k => spec_l7Order.f k l m) (decide (isOrd l m)) := by
  unfold spec_l7Order.f
  refine Ev.ite (fun h => ?_) (fun h => Ev.to (Ev.now _) (decide_eq_false fun q => h q.1).symm)
  subst h
  refine ev_up l.length (fun k i => spec_l7Order.l0 k l (l.length : Int) l (l.length : Int) (i : Int)) _ (fun i => (l.take i).Nodup ∧ ∀ x ∈ l.take i, 0 ≤ x ∧ x < (l.length : Int)) (by simp) ?_ ?_
  · intro hI
    rw [List.take_length] at hI
    refine Ev.succ ?_
    simp only [spec_l7Order.l0]
    exact Ev.neg (by omega) (Ev.to (Ev.now _) (decide_eq_true ⟨rfl, (perm_idx_iff l).mpr hI⟩).symm)
  · intro i hi hI hn
    refine Ev.succ ?_
    simp only [spec_l7Order.l0]
    rw [rd_nat _ _ hi, w64 (x := (l.length : Int) - 1) (by omega) (by omega), w64n hi (by omega), toNat_nat]
    refine Ev.pos (by omega) (Ev.pos (by omega) (Ev.pos (by omega) (Ev.bind0 (spec_l1In_eq _ _ _) ?_)))
    refine Ev.ite (fun hr => Ev.pos (by omega) (Ev.bind (spec_l1Has_ev _ _ (by rw [List.length_take]; omega)) (Ev.ite (fun hh => ?_) (fun hh => ?_)))) (fun hr => ?_)
    · have hh' : l[i] ∈ l.take i := by simpa using hh
      refine Ev.to (Ev.now _) (decide_eq_false fun q => ?_).symm
      have h1 := ((perm_idx_iff l).mp q.2).1
      have h2 : (l.take (i + 1)).Nodup := h1.sublist (List.take_sublist _ _)
      exact ((nodup_take_succ l i hi).mp h2).2 hh'
    · have hh' : l[i] ∉ l.take i := by simpa using hh
      have hr' : 0 ≤ l[i] ∧ l[i] ≤ (l.length : Int) - 1 := by simpa using hr
      refine hn ⟨(nodup_take_succ l i hi).mpr ⟨hI.1, hh'⟩, fun x hx => ?_⟩
      rw [List.take_succ_eq_append_getElem hi] at hx
      rcases List.mem_append.mp hx with hx | hx
      · exact hI.2 x hx
      · have : x = l[i] := by simpa using hx
        omega
    · refine Ev.to (Ev.now _) (decide_eq_false fun q => hr ?_).symm
      have := ((perm_idx_iff l).mp q.2).2 l[i] (List.getElem_mem hi)
      simp only [Bool.and_eq_true, decide_eq_true_eq]; omega

def ordF (l : List Int) (m : Int) : Bool × Bool := if 0 ≤ m ∧ m ≤ 10 then (decide (isOrd l m), true) else (false, false)

theorem impl_IsOrder_eq (l : List Int) (m : Int) (hl : l.length ≤ 1048576) : impl_IsOrder.f l m = some (ordF l m) := by
  unfold impl_IsOrder.f ordF
  rw [impl_within_eq, impl_isOrder_eq l m hl]
  by_cases h : 0 ≤ m ∧ m ≤ 10
  · rw [if_pos h, decide_eq_true h.1, decide_eq_true h.2]; rfl
  · rw [if_neg h]
    have : (decide (0 ≤ m) && decide (m ≤ 10)) = false := by
      rw [Bool.eq_false_iff]; intro q; simp only [Bool.and_eq_true, decide_eq_true_eq] at q; exact h q
    rw [this]; rfl

theorem spec_IsOrder_ev (l : List Int) (m : Int) (hl : l.length ≤ 1048576) : Ev (fun k => spec_IsOrder.f k l m) (ordF l m) := by
  unfold spec_IsOrder.f ordF
  refine Ev.bind0 (spec_l1In_eq _ _ _) (Ev.ite (fun h => ?_) (fun h => ?_))
  · have h' : 0 ≤ m ∧ m ≤ 10 := by simpa using h
    rw [if_pos h']; exact Ev.bind (spec_l7Order_ev l m hl) (Ev.now _)
  · rw [if_neg (fun q => h (by simpa using q))]; exact Ev.now _

theorem cur_order7 (l : List Int) (a s : Int) (n : Nat) (hl : bytesOk l) (ha : 0 ≤ a ∧ a ≤ 4611686018427387000) (hn : n ≤ 100) :
    ∃ r a' s', Ev (fun k => spec_l1Cur_order7.f k l a s (n : Int)) (r, a', s') ∧ r.length = n ∧ a ≤ a' ∧ a' ≤ a + 60 := by
  -- the end
  have fin : ∀ (x : List Int) (t a s : Int), x.length = n → 0 ≤ a ∧ a ≤ 4611686018427387100 → ∃ r a' s', Ev (fun k => spec_l1Cur_order7.j2 k (n : Int) x t false l a s) (r, a', s') ∧ r.length = n ∧ a ≤ a' ∧ a' ≤ a + 4 := by
    intro x t a s hx ha
    by_cases h0 : (n : Int) > 0
    · obtain ⟨b, a1, s1, e1, h1⟩ := cur_one l a s 20 hl (by omega)
      cases b with
      | true =>
        obtain ⟨v, a2, s2, e2, h2, h3, h4⟩ := cur_pick l a1 s1 ((n : Int) + 2) hl (by omega)
        refine ⟨x.set (0 : Int).toNat (wrap64 (v - 1)), a2, s2, Ev.succ ?_, by rw [List.length_set]; exact hx, by omega, by omega⟩
        simp only [spec_l1Cur_order7.j2, Bool.false_eq_true, if_false]
        rw [w64 (x := (n : Int) + 2) (by omega) (by omega)]
        exact Ev.pos h0 (Ev.bind0 e1 (Ev.pos rfl (Ev.bind0 e2 (Ev.pos (by omega) (Ev.now _)))))
      | false =>
        refine ⟨x, a1, s1, Ev.succ ?_, hx, by omega, by omega⟩
        simp only [spec_l1Cur_order7.j2, Bool.false_eq_true, if_false]
        exact Ev.pos h0 (Ev.bind0 e1 (Ev.neg (by simp) (Ev.now _)))
    · refine ⟨x, a, s, Ev.succ ?_, hx, by omega, by omega⟩
      simp only [spec_l1Cur_order7.j2, Bool.false_eq_true, if_false]
      exact Ev.neg h0 (Ev.now _)
  -- the swaps
  have sw : ∀ (d : Nat) (x : List Int) (a s : Int), x.length = n → 0 ≤ a ∧ a + 4 * d ≤ 4611686018427387050 → ∃ r a' s', Ev (fun k => spec_l1Cur_order7.l1 k (n : Int) x (d : Int) l a s) (r, a', s') ∧ r.length = n ∧ a ≤ a' ∧ a' ≤ a + 4 * d + 4 := by
    intro d
    induction d with
    | zero =>
      intro x a s hx ha
      obtain ⟨r, a', s', e, h⟩ := fin x 0 a s hx (by omega)
      refine ⟨r, a', s', Ev.succ ?_, h.1, h.2.1, by omega⟩
      simp only [spec_l1Cur_order7.l1]
      exact Ev.neg (by omega) e
    | succ d ih =>
      intro x a s hx ha
      by_cases h1 : (n : Int) > 1
      · obtain ⟨i, a1, s1, e1, i1, i2, i3⟩ := cur_pick l a s (n : Int) hl (by omega)
        obtain ⟨j, a2, s2, e2, j1, j2, j3⟩ := cur_pick l a1 s1 (n : Int) hl (by omega)
        obtain ⟨r, a', s', e, h⟩ := ih ((x.set i.toNat (rd x j)).set j.toNat (rd x i)) a2 s2 (by simp [hx]) (by omega)
        refine ⟨r, a', s', Ev.succ ?_, h.1, by omega, by omega⟩
        simp only [spec_l1Cur_order7.l1]
        refine Ev.pos (by omega) (Ev.succ ?_)
        rw [decide_eq_true h1]
        simp only [spec_l1Cur_order7.j2, if_true]
        refine Ev.bind0 e1 (Ev.bind0 e2 (Ev.pos (by omega) (Ev.pos (by omega) (Ev.pos (by omega) (Ev.pos (by omega) ?_)))))
        rw [w64 (by omega) (by omega), show ((d + 1 : Nat) : Int) - 1 = (d : Int) by omega]
        exact e
      · obtain ⟨r, a', s', e, h⟩ := fin x ((d + 1 : Nat) : Int) a s hx (by omega)
        refine ⟨r, a', s', Ev.succ ?_, h.1, by omega, by omega⟩
        simp only [spec_l1Cur_order7.l1]
        rw [decide_eq_false h1]
        exact Ev.pos (by omega) e
  obtain ⟨t, a1, s1, e1, t1, t2, t3⟩ := cur_pick l a s 6 hl (by omega)
  obtain ⟨r, a', s', e, h⟩ := sw t.toNat (idx n) a1 s1 (idx_length n) (by omega)
  rw [show ((t.toNat : Nat) : Int) = t by omega] at e
  refine ⟨r, a', s', ?_, h.1, by omega, by omega⟩
  unfold spec_l1Cur_order7.f
  refine ev_up n (fun k i => spec_l1Cur_order7.l0 k (n : Int) (idx i) (i : Int) l a s) _ (fun _ => True) trivial ?_ ?_
  · intro _
    refine Ev.succ ?_
    simp only [spec_l1Cur_order7.l0]
    exact Ev.neg (by omega) (Ev.bind0 e1 e)
  · intro i hi _ hn'
    refine Ev.succ ?_
    simp only [spec_l1Cur_order7.l0]
    refine Ev.pos (by omega) (Ev.pos (by rw [idx_length]; omega) ?_)
    rw [w64 (by omega) (by omega), ← idx_succ]
    exact hn' trivial

def smithC (w m : Int → Int) : Int → List Int → Int
  | _, [] => 0
  | t, k :: l => w k * (t + m k) + smithC w m (t + m k) l
theorem smithC_front (w m : Int → Int) (a : Int) (q : List Int) : ∀ (p : List Int) (t : Int), (∀ c ∈ p, w c * m a ≤ w a * m c) → smithC w m t (a :: (p ++ q)) ≤ smithC w m t (p ++ a :: q)
  | [], t, _ => Int.le_refl _
  | c :: p, t, h => by
    have h1 := smithC_front w m a q p (t + m c) fun x hx => h x (by simp [hx])
    have h2 := h c (by simp)
    rw [List.cons_append, List.cons_append, smithC, smithC]
    rw [smithC] at h1
    show _ ≤ smithC w m t (c :: (p ++ a :: q))
    rw [smithC]
    rw [show t + m a + m c = t + m c + m a by omega]
    have e1 : w a * (t + m a) = w a * t + w a * m a := Int.mul_add _ _ _
    have e2 : w a * (t + m c + m a) = w a * t + w a * m c + w a * m a := by rw [Int.mul_add, Int.mul_add]
    have e3 : w c * (t + m c + m a) = w c * (t + m c) + w c * m a := Int.mul_add _ _ _
    have e4 : w c * (t + m a + m c) = w c * (t + m c) + w c * m a := by rw [show t + m a + m c = t + m c + m a by omega]; exact e3
    omega
theorem smith_best (w m : Int → Int) : ∀ (a b : List Int) (t : Int), a.Pairwise (fun x y => w y * m x ≤ w x * m y) → a.Perm b → smithC w m t a ≤ smithC w m t b
  | [], b, t, _, hp => by
    obtain rfl : b = [] := hp.symm.eq_nil
    exact Int.le_refl _
  | a0 :: tl_, b, t, ha, hp => by
    obtain ⟨h0, hs⟩ := List.pairwise_cons.mp ha
    obtain ⟨p, q, rfl⟩ := List.append_of_mem (hp.mem_iff.mp (List.mem_cons_self : a0 ∈ a0 :: tl_))
    have h1 : tl_.Perm (p ++ q) := List.Perm.cons_inv (hp.trans List.perm_middle)
    have h2 := smith_best w m tl_ (p ++ q) (t + m a0) hs h1
    have h3 := smithC_front w m a0 q p t fun c hc => h0 c (h1.mem_iff.mpr (by simp [hc]))
    rw [smithC] at h3 ⊢
    omega

def famOk (l : List S168) : Bool := decide (l.length ≤ 6) && l.all fun x => (decide (0 ≤ x.f0) && decide (x.f0 ≤ 1000)) && (decide (1 ≤ x.f1) && decide (x.f1 ≤ 9))
theorem rd_fam (l : List S168) (i : Nat) (h : i < l.length) : rd_T168 l (i : Int) = l[i] := by simp [rd_T168, h]
def famW (l : List S168) (i : Int) : Int := (rd_T168 l i).f0
def famM (l : List S168) (i : Int) : Int := (rd_T168 l i).f1
theorem fam_rd {l : List S168} (h : famOk l = true) : l.length ≤ 6 ∧ ∀ i : Int, 0 ≤ i → i < l.length → (0 ≤ famW l i ∧ famW l i ≤ 1000) ∧ (1 ≤ famM l i ∧ famM l i ≤ 9) := by
  simp only [famOk, Bool.and_eq_true, decide_eq_true_eq, List.all_eq_true] at h
  refine ⟨h.1, fun i h0 h1 => ?_⟩
  obtain ⟨n, rfl⟩ := exists_nat_of_nonneg h0
  have := h.2 l[n] (List.getElem_mem (by omega))
  unfold famW famM
  rw [rd_fam _ _ (by omega)]
  exact this
def costSF (l : List S168) (o : List Int) : Int × Bool := if famOk l = true ∧ isOrd o (l.length : Int) then (smithC (famW l) (famM l) 0 o, true) else (0, false)
theorem smithC_bounds (w m : Int → Int) : ∀ (o : List Int) (t : Int), (∀ k ∈ o, (0 ≤ w k ∧ w k ≤ 1000) ∧ (1 ≤ m k ∧ m k ≤ 9)) → 0 ≤ t → t + 9 * o.length ≤ 1000 → 0 ≤ smithC w m t o ∧ smithC w m t o ≤ 1000000 * o.length
  | [], t, _, _, _ => by simp [smithC]
  | k :: o, t, h, h0, h1 => by
    have hk := h k (by simp)
    simp only [List.length_cons] at h1
    have ih := smithC_bounds w m o (t + m k) (fun x hx => h x (by simp [hx])) (by omega) (by omega)
    have hp : 0 ≤ w k * (t + m k) ∧ w k * (t + m k) ≤ 1000 * 1000 := ⟨Int.mul_nonneg hk.1.1 (by omega), Int.mul_le_mul hk.1.2 (by omega) (by omega) (by omega)⟩
    rw [smithC, List.length_cons]
    omega
theorem smithC_snoc (w m : Int → Int) (k : Int) : ∀ (o : List Int) (t : Int), smithC w m t (o ++ [k]) = smithC w m t o + w k * (t + (o.map m).sum + m k)
  | [], t => by simp [smithC]
  | c :: o, t => by
    rw [List.cons_append, smithC, smithC, smithC_snoc w m k o, List.map_cons, List.sum_cons, show t + m c + (o.map m).sum + m k = t + (m c + (o.map m).sum) + m k by omega]
    omega
theorem sum_le_of {l : List Int} {c : Int} (h : ∀ x ∈ l, 0 ≤ x ∧ x ≤ c) : 0 ≤ l.sum ∧ l.sum ≤ c * l.length := by
  have := sum_bounds l 0 c h
  omega

theorem impl_areFamilies_ev (l : List S168) (hl : l.length ≤ 1048576) : Ev (fun k => impl_areFamilies.f k l) (famOk l) := by
  unfold impl_areFamilies.f sl0_ContainsFunc.f sl1_IndexFunc.f famOk
  refine Ev.ite (fun h => ?_) (fun h => ?_)
  · obtain ⟨j, hj, hev⟩ := ev_indexFunc l (rd_T168 l) (rd_fam l) (fun k x => impl_areFamilies_1.f x.f0 x.f1) (fun x => !((decide (0 ≤ x.f0) && decide (x.f0 ≤ 1000)) && (decide (1 ≤ x.f1) && decide (x.f1 ≤ 9))))
      (fun x _ => by
        unfold impl_areFamilies_1.f
        refine Ev.bind0 (impl_within_eq _ _ _) (Ev.ite (fun h => ?_) (fun h => ?_))
        · rw [h, Bool.true_and]; exact Ev.bind0 (impl_within_eq _ _ _) (Ev.now _)
        · have : (decide (0 ≤ x.f0) && decide (x.f0 ≤ 1000)) = false := by simpa using h
          rw [this, Bool.false_and]; exact Ev.now _)
      (fun k i => sl1_IndexFunc.l0 k l (l.length : Int) i) (fun k i => by simp only [sl1_IndexFunc.l0]) (by omega)
    rw [any_not_all l (fun x => (decide (0 ≤ x.f0) && decide (x.f0 ≤ 1000)) && (decide (1 ≤ x.f1) && decide (x.f1 ≤ 9)))] at hj
    refine Ev.bind (Ev.bind hev (Ev.now _)) (Ev.to (Ev.now _) ?_)
    rw [hj, decide_eq_true (show l.length ≤ 6 by omega)]; simp
  · rw [decide_eq_false (show ¬ l.length ≤ 6 by omega)]; exact Ev.now _

theorem spec_l7Families_ev (l : List S168) (hl : l.length ≤ 1048576) : Ev (fun k => spec_l7Families.f k l) (famOk l) := by
  unfold spec_l7Families.f famOk
  refine ev_up l.length (fun k i => spec_l7Families.l0 k l l (l.length : Int) (i : Int)) _ (fun i => ((l.take i).all fun x => (decide (0 ≤ x.f0) && decide (x.f0 ≤ 1000)) && (decide (1 ≤ x.f1) && decide (x.f1 ≤ 9))) = true) (by simp) ?_ ?_
  · intro hI
    rw [List.take_length] at hI
    refine Ev.succ ?_
    simp only [spec_l7Families.l0]
    rw [hI, Bool.and_true]
    exact Ev.neg (by omega) (Ev.to (Ev.now _) (decide_eq_decide.mpr (by omega)))
  · intro i hi hI hn
    refine Ev.succ ?_
    simp only [spec_l7Families.l0]
    rw [rd_fam _ _ hi, w64n hi (by omega)]
    refine Ev.pos (by omega) (Ev.pos (by omega) (Ev.pos (by omega) (Ev.bind0 (spec_l1In_eq _ _ _) (Ev.ite (fun h1 => Ev.bind0 (spec_l1In_eq _ _ _) (Ev.ite (fun h2 => ?_) (fun h2 => ?_))) (fun h1 => ?_)))))
    · exact hn (all_take_succ l _ i hi hI (by simp only [h1, h2, Bool.and_true]))
    · rw [all_take_false l _ i hi (by simp only [Bool.not_eq_true] at h2; rw [h2, Bool.and_false]), Bool.and_false]; exact Ev.now _
    · rw [all_take_false l _ i hi (by simp only [Bool.not_eq_true] at h1; rw [h1, Bool.false_and]), Bool.and_false]; exact Ev.now _

theorem ord_mem {o : List Int} {m : Int} (h : isOrd o m) : ∀ x ∈ o, 0 ≤ x ∧ x < m := fun x hx => by
  have := ((perm_idx_iff o).mp h.2).2 x hx
  have := h.1; omega
theorem fam_part {l : List S168} {o : List Int} (h : famOk l = true) (ho : isOrd o (l.length : Int)) (i : Nat) (hi : i < o.length) :
    (0 ≤ rd o (i : Int) ∧ rd o (i : Int) < (l.length : Int)) ∧ (0 ≤ famW l (rd o i) ∧ famW l (rd o i) ≤ 1000) ∧ (1 ≤ famM l (rd o i) ∧ famM l (rd o i) ≤ 9) ∧ (0 ≤ ((o.take i).map (famM l)).sum ∧ ((o.take i).map (famM l)).sum ≤ 54) ∧ (0 ≤ smithC (famW l) (famM l) 0 (o.take i) ∧ smithC (famW l) (famM l) 0 (o.take i) ≤ 6000000) ∧ o.length ≤ 6 := by
  obtain ⟨h1, h2⟩ := fam_rd h
  have hm := ord_mem ho
  have hl := ho.1
  have e : rd o (i : Int) = o[i] := rd_nat _ _ hi
  have hx := hm o[i] (List.getElem_mem hi)
  rw [e]
  have h3 := h2 o[i] hx.1 hx.2
  have ht : ∀ x ∈ o.take i, (0 ≤ famW l x ∧ famW l x ≤ 1000) ∧ (1 ≤ famM l x ∧ famM l x ≤ 9) := fun x hx => by
    have := hm x (List.mem_of_mem_take hx); exact h2 x this.1 this.2
  have hlen : (o.take i).length ≤ 6 := by rw [List.length_take]; omega
  have s1 := sum_le_of (l := (o.take i).map (famM l)) (c := 9) (fun x hx => by
    obtain ⟨y, hy, rfl⟩ := List.mem_map.mp hx
    have := ht y hy; omega)
  rw [List.length_map] at s1
  have s2 := smithC_bounds (famW l) (famM l) (o.take i) 0 ht (by omega) (by omega)
  exact ⟨hx, h3.1, h3.2, by omega, by omega, by omega⟩
theorem impl_SmithCost_ev (l : List S168) (o : List Int) (hl : l.length ≤ 1048576) (ho : o.length ≤ 1048576) : Ev (fun k => impl_SmithCost.f k l o) (costSF l o) := by
  unfold impl_SmithCost.f costSF
  refine Ev.bind (impl_areFamilies_ev l hl) (Ev.ite (fun h1 => ?_) (fun h1 => ?_))
  · refine Ev.bind0 (impl_isOrder_eq o _ ho) (Ev.succ ?_)
    simp only [impl_SmithCost.j0]
    by_cases h2 : isOrd o (l.length : Int)
    · rw [decide_eq_true h2, if_pos ⟨h1, h2⟩]
      refine Ev.neg (by simp) ?_
      refine ev_up o.length (fun k i => impl_SmithCost.l0 k l ((o.take i).map (famM l)).sum (smithC (famW l) (famM l) 0 (o.take i)) o (o.length : Int) (i : Int)) _ (fun _ => True) trivial ?_ ?_
      · intro _
        refine Ev.succ ?_
        simp only [impl_SmithCost.l0]
        rw [List.take_length]; exact Ev.neg (by omega) (Ev.now _)
      · intro i hi _ hn
        obtain ⟨p1, p2, p3, p4, p5, p6⟩ := fam_part h1 h2 i hi
        have hn' := hn trivial
        rw [List.take_succ_eq_append_getElem hi, List.map_append, List.sum_append, smithC_snoc, ← rd_nat o i hi] at hn'
        have hp : 0 ≤ famW l (rd o i) * (((o.take i).map (famM l)).sum + famM l (rd o i)) ∧ famW l (rd o i) * (((o.take i).map (famM l)).sum + famM l (rd o i)) ≤ 1000 * 63 := mul_small p2 (by omega)
        simp only [List.map_cons, List.map_nil, List.sum_cons, List.sum_nil, Int.add_zero, Int.zero_add] at hn'
        refine Ev.succ ?_
        simp only [impl_SmithCost.l0]
        show Ev (fun k => if (i : Int) < (o.length : Int) then (if 0 ≤ (i : Int) then (if (i : Int) < (o.length : Int) then (if 0 ≤ (rd o i) then (if (rd o i) < (l.length : Int) then (impl_SmithCost.l0 k l (wrap64 (((o.take i).map (famM l)).sum + famM l (rd o i))) (wrap64 (smithC (famW l) (famM l) 0 (o.take i) + (wrap64 (famW l (rd o i) * (wrap64 (((o.take i).map (famM l)).sum + famM l (rd o i))))))) o (o.length : Int) (wrap64 ((i : Int) + 1))) else (none)) else (none)) else (none)) else (none)) else (some (smithC (famW l) (famM l) 0 (o.take i), true))) _
        rw [w64n hi (by omega), w64 (x := ((o.take i).map (famM l)).sum + famM l (rd o i)) (by omega) (by omega), w64 (x := famW l (rd o i) * _) (by omega) (by omega), w64 (by omega) (by omega)]
        exact Ev.pos (by omega) (Ev.pos (by omega) (Ev.pos (by omega) (Ev.pos (by omega) (Ev.pos (by omega) hn'))))
    · rw [if_neg (fun q => h2 q.2)]
      exact Ev.pos (by simp [h2]) (Ev.now _)
  · refine Ev.succ ?_
    simp only [impl_SmithCost.j0]
    rw [if_neg (fun q => h1 q.1)]
    exact Ev.pos trivial (Ev.now _)

theorem spec_SmithCost_ev (l : List S168) (o : List Int) (hl : l.length ≤ 1048576) (ho : o.length ≤ 1048576) : Ev (fun k => spec_SmithCost.f k l o) (costSF l o) := by
  unfold spec_SmithCost.f costSF
  refine Ev.bind (spec_l7Families_ev l hl) (Ev.ite (fun h1 => ?_) (fun h1 => ?_))
  · refine Ev.bind (spec_l7Order_ev o _ ho) (Ev.ite (fun h2 => ?_) (fun h2 => ?_))
    · have h2 := of_decide_eq_true h2
      rw [if_pos ⟨h1, h2⟩]
      refine Ev.bind (r := (smithC (famW l) (famM l) 0 o, true)) ?_ (Ev.now _)
      unfold spec_l7Smith.f
      refine ev_up o.length (fun k i => spec_l7Smith.l0 k l (smithC (famW l) (famM l) 0 (o.take i)) ((o.take i).map (famM l)).sum o (o.length : Int) (i : Int)) _ (fun _ => True) trivial ?_ ?_
      · intro _
        refine Ev.succ ?_
        simp only [spec_l7Smith.l0]
        rw [List.take_length]; exact Ev.neg (by omega) (Ev.now _)
      · intro i hi _ hn
        obtain ⟨p1, p2, p3, p4, p5, p6⟩ := fam_part h1 h2 i hi
        have hn' := hn trivial
        rw [List.take_succ_eq_append_getElem hi, List.map_append, List.sum_append, smithC_snoc, ← rd_nat o i hi] at hn'
        have hp : 0 ≤ famW l (rd o i) * (((o.take i).map (famM l)).sum + famM l (rd o i)) ∧ famW l (rd o i) * (((o.take i).map (famM l)).sum + famM l (rd o i)) ≤ 1000 * 63 := mul_small p2 (by omega)
        simp only [List.map_cons, List.map_nil, List.sum_cons, List.sum_nil, Int.add_zero, Int.zero_add] at hn'
        refine Ev.succ ?_
        simp only [spec_l7Smith.l0]
        show Ev (fun k => if (i : Int) < (o.length : Int) then (if 0 ≤ (i : Int) then (if (i : Int) < (o.length : Int) then (if 0 ≤ (rd o i) then (if (rd o i) < (l.length : Int) then (spec_l7Smith.l0 k l (wrap64 (smithC (famW l) (famM l) 0 (o.take i) + (wrap64 (famW l (rd o i) * (wrap64 (((o.take i).map (famM l)).sum + famM l (rd o i))))))) (wrap64 (((o.take i).map (famM l)).sum + famM l (rd o i))) o (o.length : Int) (wrap64 ((i : Int) + 1))) else (none)) else (none)) else (none)) else (none)) else (some (smithC (famW l) (famM l) 0 (o.take i)))) _
        rw [w64n hi (by omega), w64 (x := ((o.take i).map (famM l)).sum + famM l (rd o i)) (by omega) (by omega), w64 (x := famW l (rd o i) * _) (by omega) (by omega), w64 (by omega) (by omega)]
        exact Ev.pos (by omega) (Ev.pos (by omega) (Ev.pos (by omega) (Ev.pos (by omega) (Ev.pos (by omega) hn'))))
    · rw [if_neg (fun q => h2 (decide_eq_true q.2))]; exact Ev.now _
  · rw [if_neg (fun q => h1 q.1)]; exact Ev.now _

def ltSm (l : List S168) (a b : Int) : Bool := decide (famW l b * famM l a < famW l a * famM l b)
theorem ltSm_weak {l : List S168} (h : famOk l = true) : Weak (ltSm l) (fun x => 0 ≤ x ∧ x < (l.length : Int)) := by
  obtain ⟨_, hr⟩ := fam_rd h
  constructor
  · intro a b c ha hb hcc h1 h2
    simp only [ltSm, decide_eq_false_iff_not, Int.not_lt] at h1 h2 ⊢
    have ca := (hr a ha.1 ha.2).2
    have cb := (hr b hb.1 hb.2).2
    have cc := (hr c hcc.1 hcc.2).2
    have e1 : famW l a * famM l b * famM l c ≤ famW l b * famM l a * famM l c := Int.mul_le_mul_of_nonneg_right h1 (by omega)
    have e2 : famW l b * famM l c * famM l a ≤ famW l c * famM l b * famM l a := Int.mul_le_mul_of_nonneg_right h2 (by omega)
    refine Int.le_of_mul_le_mul_right (show famW l a * famM l c * famM l b ≤ famW l c * famM l a * famM l b from ?_) (by omega)
    have e3 : famW l a * famM l c * famM l b = famW l a * famM l b * famM l c := by rw [Int.mul_assoc, Int.mul_comm (famM l c), ← Int.mul_assoc]
    have e4 : famW l c * famM l a * famM l b = famW l c * famM l b * famM l a := by rw [Int.mul_assoc, Int.mul_comm (famM l a), ← Int.mul_assoc]
    have e5 : famW l b * famM l a * famM l c = famW l b * famM l c * famM l a := by rw [Int.mul_assoc, Int.mul_comm (famM l a), ← Int.mul_assoc]
    rw [e5] at e1
    rw [e3, e4]; exact Int.le_trans e1 e2
  · intro a b _ _ h
    simp only [ltSm, decide_eq_true_eq, decide_eq_false_iff_not, Int.not_lt] at h ⊢
    omega
def orderSF (l : List S168) : List Int × Bool := if famOk l = true then (isl (ltSm l) (idx l.length), true) else ([], false)
theorem fam_prods {l : List S168} (h : famOk l = true) (a b : Int) (ha : 0 ≤ a ∧ a < (l.length : Int)) (hb : 0 ≤ b ∧ b < (l.length : Int)) : 0 ≤ famW l b * famM l a ∧ famW l b * famM l a ≤ 9000 := by
  obtain ⟨_, hr⟩ := fam_rd h
  exact mul_small (m := 1000) (n := 9) (hr b hb.1 hb.2).1 (by have := (hr a ha.1 ha.2).2; omega)
theorem smithOrd_best {l : List S168} (h : famOk l = true) : isOrd (isl (ltSm l) (idx l.length)) (l.length : Int) ∧ ∀ o, isOrd o (l.length : Int) → smithC (famW l) (famM l) 0 (isl (ltSm l) (idx l.length)) ≤ smithC (famW l) (famM l) 0 o := by
  have hp : (isl (ltSm l) (idx l.length)).Perm (idx l.length) := isl_perm _ _
  have hlen : (isl (ltSm l) (idx l.length)).length = l.length := isl_idx_length _ _
  refine ⟨⟨by rw [hlen], by rw [hlen]; exact hp⟩, fun o ho => ?_⟩
  have hs := isl_sorted (ltSm_weak h) (idx l.length) (fun y hy => (mem_idx _ _).mp hy) (idx l.length).length (Nat.le_refl _)
  rw [List.take_length] at hs
  refine smith_best _ _ _ _ _ (hs.imp fun {a b} hab => ?_) (hp.trans ?_)
  · simp only [ltSm, decide_eq_false_iff_not, Int.not_lt] at hab; exact hab
  · have e : o.length = l.length := by have := ho.1; omega
    have := ho.2; rw [e] at this; exact this.symm

theorem spec_SmithOrder_ev (l : List S168) (hl : l.length ≤ 1048576) : Ev (fun k => spec_SmithOrder.f k l) (orderSF l) := by
  unfold spec_SmithOrder.f orderSF
  refine Ev.bind (spec_l7Families_ev l hl) (Ev.ite (fun h => ?_) (fun h => by rw [if_neg h]; exact Ev.now _))
  rw [if_pos h]
  have h6 := (fam_rd h).1
  refine ev_up l.length (fun k i => spec_SmithOrder.l0 k l (isl (ltSm l) (idx i)) l (l.length : Int) (i : Int)) _ (fun _ => True) trivial ?_ ?_
  · intro _
    refine Ev.succ ?_
    simp only [spec_SmithOrder.l0]
    exact Ev.neg (by omega) (Ev.now _)
  · intro i hi _ hn
    refine Ev.succ ?_
    simp only [spec_SmithOrder.l0]
    refine Ev.pos (by omega) (Ev.pos (by omega) (Ev.pos (by omega) ?_))
    have hm : ∀ x ∈ isl (ltSm l) (idx i), 0 ≤ x ∧ x < (i : Int) := fun x hx => isl_idx_mem _ _ hx
    have hl' := isl_idx_length (ltSm l) i
    have hn' := hn trivial
    rw [idx_succ, isl_snoc, ins] at hn'
    revert hm hl' hn'
    generalize isl (ltSm l) (idx i) = s
    intro hm hl' hn'
    obtain ⟨K, h1, h2, h3, h4, h5⟩ := span_spec (fun y => !ltSm l (i : Int) y) s
    rw [h2, h3] at hn'
    have body : Ev (fun k => if ([] : List Int).length + (s.take K).length < 17592186044416 then ((some (([] : List Int) ++ s.take K : List Int)).bind fun y111 => (if y111.length < 17592186044416 then ((some (y111 ++ [(i : Int)] : List Int)).bind fun y114 => ((some (s.drop K : List Int)).bind fun y117 => (if y114.length + y117.length < 17592186044416 then (spec_SmithOrder.l0 k l (y114 ++ y117) l (l.length : Int) (wrap64 ((i : Int) + 1))) else (none)))) else (none))) else (none)) (isl (ltSm l) (idx l.length), true) := by
      refine Ev.pos (by simp; omega) (Ev.bind0 rfl (Ev.pos (by simp; omega) (Ev.bind0 rfl (Ev.bind0 rfl (Ev.pos (by simp; omega) ?_)))))
      rw [w64 (by omega) (by omega)]
      simpa using hn'
    refine ev_up K (fun k j => spec_SmithOrder.l1 k l s (i : Int) (j : Int) l (l.length : Int) (i : Int) (famW l (i : Int)) (famM l (i : Int))) _ (fun _ => True) trivial ?_ ?_
    · intro _
      refine Ev.succ ?_
      simp only [spec_SmithOrder.l1]
      refine Ev.ite (fun hcc => ?_) (fun hcc => ?_)
      · have hk : K < s.length := by omega
        have hx := hm _ (List.getElem_mem hk)
        have h6 := h5 hk
        rw [rd_nat _ _ hk]
        have m1 := fam_prods h (i : Int) s[K] (by omega) (by omega)
        have m2 := fam_prods h s[K] (i : Int) (by omega) (by omega)
        simp only [ltSm, Bool.not_eq_false', decide_eq_true_eq] at h6
        refine Ev.pos (by omega) (Ev.pos (by omega) (Ev.pos (by omega) (Ev.neg ?_ ?_)))
        · show ¬ wrap64 (famW l s[K] * famM l (i : Int)) ≥ wrap64 (famW l (i : Int) * famM l s[K])
          rw [w64 (by omega) (by omega), w64 (by omega) (by omega)]; omega
        · rw [toNat_nat]
          exact Ev.bind0 rfl (Ev.pos (by omega) (Ev.bind0 rfl body))
      · rw [toNat_nat]
        exact Ev.bind0 rfl (Ev.pos (by omega) (Ev.pos (by omega) (Ev.bind0 rfl body)))
    · intro j hj _ hnx
      have hk : j < s.length := by omega
      have hx := hm _ (List.getElem_mem hk)
      have h6 := h4 j hk hj
      have m1 := fam_prods h (i : Int) s[j] (by omega) (by omega)
      have m2 := fam_prods h s[j] (i : Int) (by omega) (by omega)
      simp only [ltSm, Bool.not_eq_true', decide_eq_false_iff_not] at h6
      refine Ev.succ ?_
      simp only [spec_SmithOrder.l1]
      rw [rd_nat _ _ hk]
      refine Ev.pos (by omega) (Ev.pos (by omega) (Ev.pos (by omega) (Ev.pos (by omega) (Ev.pos ?_ ?_))))
      · show wrap64 (famW l s[j] * famM l (i : Int)) ≥ wrap64 (famW l (i : Int) * famM l s[j])
        rw [w64 (by omega) (by omega), w64 (by omega) (by omega)]; omega
      · rw [w64 (by omega) (by omega)]; exact hnx trivial

theorem sortSmith_ev (l : List S168) (o : List Int) (h : famOk l = true) (hn : o.length < 20) (hm : ∀ y ∈ o, 0 ≤ y ∧ y < (l.length : Int)) :
    Ev (fun k => sl2_SortStableFunc.f k o l) (isl (ltSm l) o) := by
  have hg : Inserts (fun a b => impl_SmithOrder_1.f a b l) o.length (fun k x i => sl3_insertionSortCmpFunc.l0 k x 0 (o.length : Int) i l) (fun k x i j => sl3_insertionSortCmpFunc.l1 k x 0 (o.length : Int) i j l) :=
    ⟨fun _ _ _ => rfl, fun _ _ _ _ => rfl⟩
  have hs := inserts_ev hg (ltSm_weak h) (fun a b ha hb => by
    have m1 := fam_prods h a b ha hb
    have m2 := fam_prods h b a hb ha
    unfold impl_SmithOrder_1.f
    rw [if_pos hb.1, if_pos hb.2, if_pos ha.1, if_pos ha.2]
    refine ⟨_, rfl, decide_eq_decide.mpr ?_⟩
    show famW l b * famM l a < famW l a * famM l b ↔ wrap64 (wrap64 (famW l b * famM l a) - wrap64 (famW l a * famM l b)) < 0
    rw [w64 (x := famW l b * famM l a) (by omega) (by omega), w64 (x := famW l a * famM l b) (by omega) (by omega), w64 (by omega) (by omega)]
    omega) o rfl (by omega) hm
  unfold sl2_SortStableFunc.f sl4_stableCmpFunc.f
  refine Ev.bind (r := isl (ltSm l) o) ?_ (Ev.now _)
  refine Ev.succ ?_
  simp only [sl4_stableCmpFunc.l0]
  refine Ev.neg (by omega) (Ev.bind (by unfold sl3_insertionSortCmpFunc.f; rw [w64 (by omega) (by omega)]; exact hs) ?_)
  refine Ev.succ ?_
  simp only [sl4_stableCmpFunc.l1]
  exact Ev.neg (by omega) (Ev.now _)
theorem impl_SmithOrder_ev (l : List S168) (hl : l.length ≤ 1048576) : Ev (fun k => impl_SmithOrder.f k l) (orderSF l) := by
  unfold impl_SmithOrder.f orderSF
  refine Ev.bind (impl_areFamilies_ev l hl) (Ev.ite (fun h => ?_) (fun h => by rw [if_neg h]; exact Ev.now _))
  rw [if_pos h]
  have h6 := (fam_rd h).1
  refine ev_up l.length (fun k i => impl_SmithOrder.l0 k (idx i) (l.length : Int) (i : Int) l) _ (fun _ => True) trivial ?_ ?_
  · intro _
    refine Ev.succ ?_
    simp only [impl_SmithOrder.l0]
    exact Ev.neg (by omega) (Ev.bind (sortSmith_ev l (idx l.length) h (by rw [idx_length]; omega) (fun y hy => (mem_idx _ _).mp hy)) (Ev.now _))
  · intro i hi _ hn
    refine Ev.succ ?_
    simp only [impl_SmithOrder.l0]
    refine Ev.pos (by omega) (Ev.pos (by rw [idx_length]; omega) ?_)
    rw [w64 (by omega) (by omega), ← idx_succ]
    exact hn trivial

theorem cur_families (l : List Int) (a s : Int) (hl : bytesOk l) (ha : 0 ≤ a ∧ a ≤ 4611686018427387000) :
    ∃ (r : List S168) (a' s' : Int), Ev (fun k => spec_l1Cur_families.f k l a s) (r, a', s') ∧ r.length ≤ 7 ∧ a ≤ a' ∧ a' ≤ a + 60 := by
  have loop : ∀ (d : Nat) (x : List S168) (a s : Int), x.length + d ≤ 7 → 0 ≤ a ∧ a + 4 * d ≤ 4611686018427387300 → ∃ (r : List S168) (a' s' : Int), Ev (fun k => spec_l1Cur_families.l0 k x (d : Int) l a s) (r, a', s') ∧ r.length ≤ 7 ∧ a ≤ a' ∧ a' ≤ a + 4 * d + 4 := by
    intro d
    induction d with
    | zero =>
      intro x a s hx ha
      by_cases h0 : (x.length : Int) > 0
      · obtain ⟨b, a1, s1, e1, h1⟩ := cur_one l a s 30 hl (by omega)
        cases b with
        | true =>
          obtain ⟨v, a2, s2, e2, _, h3⟩ := cur_among l a1 s1 [0, 9, 10] hl (by omega) (by simp)
          refine ⟨x.set (0 : Int).toNat ⟨(rd_T168 x 0).f0, v⟩, a2, s2, Ev.succ ?_, by rw [List.length_set]; omega, by omega, by omega⟩
          simp only [spec_l1Cur_families.l0]
          exact Ev.neg (by omega) (Ev.pos h0 (Ev.bind0 e1 (Ev.pos rfl (Ev.bind0 e2 (Ev.pos (by omega) (Ev.now _))))))
        | false =>
          refine ⟨x, a1, s1, Ev.succ ?_, by omega, by omega, by omega⟩
          simp only [spec_l1Cur_families.l0]
          exact Ev.neg (by omega) (Ev.pos h0 (Ev.bind0 e1 (Ev.neg (by simp) (Ev.now _))))
      · refine ⟨x, a, s, Ev.succ ?_, by omega, by omega, by omega⟩
        simp only [spec_l1Cur_families.l0]
        exact Ev.neg (by omega) (Ev.neg h0 (Ev.now _))
    | succ d ih =>
      intro x a s hx ha
      obtain ⟨u, a1, s1, e1, _, _, u3⟩ := cur_pick l a s 20 hl (by omega)
      obtain ⟨v, a2, s2, e2, _, _, v3⟩ := cur_pick l a1 s1 4 hl (by omega)
      obtain ⟨r, a', s', e, h⟩ := ih (x ++ [⟨u, wrap64 (1 + v)⟩]) a2 s2 (by simp; omega) (by omega)
      refine ⟨r, a', s', Ev.succ ?_, h.1, by omega, by omega⟩
      simp only [spec_l1Cur_families.l0]
      refine Ev.pos (by omega) (Ev.bind0 e1 (Ev.bind0 e2 (Ev.pos (by omega) ?_)))
      rw [w64 (x := ((d + 1 : Nat) : Int) - 1) (by omega) (by omega), show ((d + 1 : Nat) : Int) - 1 = (d : Int) by omega]
      exact e
  unfold spec_l1Cur_families.f
  obtain ⟨n, a1, s1, e1, n1, n2, n3⟩ := cur_pick l a s 6 hl (by omega)
  obtain ⟨b, a2, s2, e2, h2⟩ := cur_one l a1 s1 20 hl (by omega)
  cases b with
  | true =>
    obtain ⟨m, a3, s3, e3, m1, m2, m3⟩ := cur_pick l a2 s2 2 hl (by omega)
    obtain ⟨r, a', s', e, h⟩ := loop (6 + m).toNat [] a3 s3 (by simp; omega) (by omega)
    rw [show (((6 + m).toNat : Nat) : Int) = 6 + m by omega] at e
    refine ⟨r, a', s', Ev.bind0 e1 (Ev.bind0 e2 (Ev.pos rfl (Ev.bind0 e3 (Ev.succ ?_)))), h.1, by omega, by omega⟩
    simp only [spec_l1Cur_families.j0]
    rw [w64 (by omega) (by omega)]; exact e
  | false =>
    obtain ⟨r, a', s', e, h⟩ := loop n.toNat [] a2 s2 (by simp; omega) (by omega)
    rw [show ((n.toNat : Nat) : Int) = n by omega] at e
    refine ⟨r, a', s', Ev.bind0 e1 (Ev.bind0 e2 (Ev.neg (by simp) (Ev.succ ?_))), h.1, by omega, by omega⟩
    simp only [spec_l1Cur_families.j0]
    exact e

open Classical in
noncomputable def b2 (p : Prop) : Nat := if p then 1 else 0
theorem b2_pos {p : Prop} (h : p) : b2 p = 1 := if_pos h
theorem b2_neg {p : Prop} (h : ¬ p) : b2 p = 0 := if_neg h
theorem b2_congr {p q : Prop} (h : p ↔ q) : b2 p = b2 q := by rw [show p = q from propext h]
theorem b2_le (p : Prop) : b2 p ≤ 1 := by unfold b2; split <;> omega
noncomputable def cnt (p : Nat → Prop) : Nat → Nat
  | 0 => 0
  | n + 1 => cnt p n + b2 (p n)
theorem cnt_congr {p q : Nat → Prop} : ∀ n, (∀ i, i < n → (p i ↔ q i)) → cnt p n = cnt q n
  | 0, _ => rfl
  | n + 1, h => by rw [cnt, cnt, cnt_congr n (fun i hi => h i (by omega)), b2_congr (h n (by omega))]
theorem cnt_le_n (p : Nat → Prop) : ∀ n, cnt p n ≤ n
  | 0 => Nat.le_refl _
  | n + 1 => by rw [cnt]; have := cnt_le_n p n; have := b2_le (p n); omega
theorem cnt_zero {p : Nat → Prop} : ∀ n, (∀ i, i < n → ¬ p i) → cnt p n = 0
  | 0, _ => rfl
  | n + 1, h => by rw [cnt, cnt_zero n (fun i hi => h i (by omega)), b2_neg (h n (by omega))]
theorem cnt_split (p q : Nat → Prop) : ∀ n, cnt p n = cnt (fun i => p i ∧ q i) n + cnt (fun i => p i ∧ ¬ q i) n
  | 0 => rfl
  | n + 1 => by
    rw [cnt, cnt, cnt, cnt_split p q n]
    by_cases hp : p n
    · by_cases hq : q n
      · rw [b2_pos hp, b2_pos ⟨hp, hq⟩, b2_neg (fun h => h.2 hq)]; omega
      · rw [b2_pos hp, b2_neg (fun h => hq h.2), b2_pos ⟨hp, hq⟩]; omega
    · rw [b2_neg hp, b2_neg (fun h => hp h.1), b2_neg (fun h => hp h.1)]; omega
theorem cnt_unique {p : Nat → Prop} : ∀ n, (∃ j, j < n ∧ p j) → (∀ i j, i < n → j < n → p i → p j → i = j) → cnt p n = 1
  | 0, h, _ => by obtain ⟨j, hj, _⟩ := h; omega
  | n + 1, h, hu => by
    rw [cnt]
    by_cases hp : p n
    · rw [b2_pos hp, cnt_zero n (fun i hi hpi => by have := hu i n (by omega) (by omega) hpi hp; omega)]
    · rw [b2_neg hp, cnt_unique n (by
        obtain ⟨j, hj, hpj⟩ := h
        refine ⟨j, ?_, hpj⟩
        rcases Nat.lt_or_ge j n with h1 | h1
        · exact h1
        · obtain rfl : j = n := by omega
          exact absurd hpj hp) (fun i j hi hj => hu i j (by omega) (by omega))]
theorem cnt_but {p : Nat → Prop} {n j : Nat} (hj : j < n) (hp : p j) : cnt p n = cnt (fun i => p i ∧ i ≠ j) n + 1 := by
  rw [cnt_split p (fun i => i = j) n, cnt_unique (p := fun i => p i ∧ i = j) n ⟨j, hj, hp, rfl⟩ (fun a b _ _ ha hb => by rw [ha.2, hb.2])]
  have e : cnt (fun i => p i ∧ i ≠ j) n = cnt (fun i => p i ∧ ¬ i = j) n := rfl
  omega
theorem cnt_inj (f : Nat → Nat) : ∀ (n : Nat) {p q : Nat → Prop} {m : Nat}, (∀ i, i < n → p i → f i < m ∧ q (f i)) → (∀ i j, i < n → j < n → p i → p j → f i = f j → i = j) → cnt p n ≤ cnt q m
  | 0, _, _, _, _, _ => Nat.zero_le _
  | n + 1, p, q, m, h, hi => by
    rw [cnt]
    by_cases hp : p n
    · have h1 := h n (by omega) hp
      rw [b2_pos hp, cnt_but h1.1 h1.2]
      have := cnt_inj f n (p := p) (q := fun i => q i ∧ i ≠ f n) (m := m) (fun i hin hpi => ⟨(h i (by omega) hpi).1, (h i (by omega) hpi).2, fun e => by have := hi i n (by omega) (by omega) hpi hp e; omega⟩) (fun i j hin hjn => hi i j (by omega) (by omega))
      omega
    · rw [b2_neg hp]
      exact cnt_inj f n (fun i hin => h i (by omega)) (fun i j hin hjn => hi i j (by omega) (by omega))

def it (F : Nat → Option Nat) : Nat → Nat → Option Nat
  | 0, k => some k
  | m + 1, k => (F k).bind (it F m)
theorem it_add (F : Nat → Option Nat) : ∀ m n k, it F (m + n) k = (it F m k).bind (it F n)
  | 0, n, k => by simp [it]
  | m + 1, n, k => by
    rw [show m + 1 + n = (m + n) + 1 by omega, it, it]
    cases hF : F k with
    | none => rfl
    | some a => simp only [Option.bind_some]; exact it_add F m n a
theorem it_succ (F : Nat → Option Nat) (m k : Nat) : it F (m + 1) k = (it F m k).bind F := by
  rw [it_add]
  congr 1
  funext a
  cases h : F a <;> simp [it, h]
theorem it_mul {F : Nat → Option Nat} {p k : Nat} (h : it F p k = some k) : ∀ m, it F (p * m) k = some k
  | 0 => rfl
  | m + 1 => by rw [Nat.mul_add, Nat.mul_one, it_add, it_mul h m]; exact h
def StepInj (F : Nat → Option Nat) : Prop := ∀ a b c, F a = some c → F b = some c → a = b
theorem it_inj {F : Nat → Option Nat} (h : StepInj F) : ∀ m a b c, it F m a = some c → it F m b = some c → a = b
  | 0, a, b, c, ha, hb => by simp only [it, Option.some.injEq] at ha hb; omega
  | m + 1, a, b, c, ha, hb => by
    simp only [it, Option.bind_eq_some_iff] at ha hb
    obtain ⟨a', ha', ha⟩ := ha
    obtain ⟨b', hb', hb⟩ := hb
    obtain rfl := it_inj h m a' b' c ha hb
    exact h a b a' ha' hb'
def onCyc (F : Nat → Option Nat) (k : Nat) : Prop := ∃ m, it F (m + 1) k = some k
def reach (F : Nat → Option Nat) (a b : Nat) : Prop := ∃ m, it F m a = some b
theorem reach_refl (F : Nat → Option Nat) (a : Nat) : reach F a a := ⟨0, rfl⟩
theorem reach_trans {F : Nat → Option Nat} {a b c : Nat} (h : reach F a b) (h' : reach F b c) : reach F a c := by
  obtain ⟨m, hm⟩ := h
  obtain ⟨n, hn⟩ := h'
  exact ⟨m + n, by rw [it_add, hm]; exact hn⟩
theorem cyc_reach {F : Nat → Option Nat} {k b : Nat} (h : onCyc F k) (hb : reach F k b) : onCyc F b ∧ reach F b k := by
  obtain ⟨p, hp⟩ := h
  obtain ⟨m, hm⟩ := hb
  have h1 := it_mul hp m
  obtain ⟨r, hr⟩ : ∃ r, (p + 1) * m = m + r := ⟨p * m, by rw [Nat.add_mul, Nat.one_mul]; omega⟩
  rw [hr, it_add, hm] at h1
  have h2 : it F r b = some k := h1
  refine ⟨⟨r + p + m, ?_⟩, ⟨r, h2⟩⟩
  rw [show r + p + m + 1 = r + ((p + 1) + m) by omega, it_add, h2]
  show it F (p + 1 + m) k = some b
  rw [it_add, hp]; exact hm
theorem cyc_some {F : Nat → Option Nat} {k : Nat} (h : onCyc F k) : ∃ b, F k = some b := by
  obtain ⟨m, hm⟩ := h
  simp only [it, Option.bind_eq_some_iff] at hm
  obtain ⟨b, hb, _⟩ := hm
  exact ⟨b, hb⟩
theorem cyc_back {F : Nat → Option Nat} (hF : StepInj F) {k b : Nat} (h : onCyc F k) (hb : reach F b k) : onCyc F b ∧ reach F k b := by
  obtain ⟨p, hp⟩ := h
  obtain ⟨m, hm⟩ := hb
  have h1 := it_mul hp m
  have e : (p + 1) * m = p * m + m := by rw [Nat.add_mul, Nat.one_mul]
  rw [e, it_add] at h1
  cases hc : it F (p * m) k with
  | none => rw [hc] at h1; cases h1
  | some c =>
    rw [hc] at h1
    have hbc : b = c := it_inj hF m b c k hm h1
    subst hbc
    have hr : reach F k b := ⟨_, hc⟩
    exact ⟨(cyc_reach ⟨p, hp⟩ hr).1, hr⟩
def lead (F : Nat → Option Nat) (k : Nat) : Prop := onCyc F k ∧ ∀ b, reach F k b → k ≤ b
noncomputable def cyc (F : Nat → Option Nat) (n : Nat) : Nat := cnt (lead F) n
def Within (F : Nat → Option Nat) (n : Nat) : Prop := ∀ a b, F a = some b → a < n ∧ b < n
theorem cyc_lt {F : Nat → Option Nat} {n k : Nat} (h : Within F n) (hk : onCyc F k) : k < n := by
  obtain ⟨b, hb⟩ := cyc_some hk
  exact (h k b hb).1
theorem lead_of {F : Nat → Option Nat} {p : Nat} (h : onCyc F p) : ∃ j, lead F j ∧ reach F j p := by
  obtain ⟨j, hj, hmin⟩ := exists_least (p := fun j => reach F p j) ⟨p, reach_refl F p⟩
  obtain ⟨h1, h2⟩ := cyc_reach h hj
  exact ⟨j, ⟨h1, fun b hb => hmin b (reach_trans hj hb)⟩, h2⟩
theorem lead_uniq {F : Nat → Option Nat} {p i j : Nat} (hi : lead F i) (hj : lead F j) (hip : reach F i p) (hjp : reach F j p) : i = j := by
  have h1 := (cyc_reach hi.1 hip).2
  have h2 := (cyc_reach hj.1 hjp).2
  have h3 := hi.2 j (reach_trans hip h2)
  have h4 := hj.2 i (reach_trans hjp h1)
  omega
theorem cyc_but {F : Nat → Option Nat} {n : Nat} (h : Within F n) (p : Nat) : cyc F n = cnt (fun k => lead F k ∧ ¬ reach F k p) n + b2 (onCyc F p) := by
  unfold cyc
  rw [cnt_split (lead F) (fun k => reach F k p) n]
  by_cases hp : onCyc F p
  · obtain ⟨j, hj, hjp⟩ := lead_of hp
    rw [b2_pos hp, cnt_unique n ⟨j, cyc_lt h hj.1, hj, hjp⟩ (fun i j _ _ hi hj => lead_uniq hi.1 hj.1 hi.2 hj.2)]
    omega
  · rw [b2_neg hp, cnt_zero n (fun i _ hi => hp (cyc_reach hi.1.1 hi.2).1)]
    omega
structure Shifted (F F' : Nat → Option Nat) (p q : Nat) : Prop where
  none1 : F q = none
  none2 : F' p = none
  same : F' q = F p
  rest : ∀ k, k ≠ p → k ≠ q → F' k = F k
theorem Shifted.symm {F F' : Nat → Option Nat} {p q : Nat} (h : Shifted F F' p q) : Shifted F' F q p := ⟨h.none2, h.none1, h.same.symm, fun k h1 h2 => (h.rest k h2 h1).symm⟩
theorem Shifted.iter {F F' : Nat → Option Nat} {p q k : Nat} (h : Shifted F F' p q) (hk : onCyc F k) (hp : ¬ reach F k p) : ∀ m, it F' m k = it F m k
  | 0 => rfl
  | m + 1 => by
    rw [it_succ, it_succ, Shifted.iter h hk hp m]
    cases hb : it F m k with
    | none => rfl
    | some b =>
      obtain ⟨c, hc⟩ := cyc_some (cyc_reach hk ⟨m, hb⟩).1
      exact h.rest b (fun e => hp ⟨m, by rw [hb, e]⟩) (fun e => by rw [e, h.none1] at hc; cases hc)
theorem Shifted.lead {F F' : Nat → Option Nat} {p q k : Nat} (h : Shifted F F' p q) (hk : lead F k ∧ ¬ reach F k p) : lead F' k ∧ ¬ reach F' k q := by
  obtain ⟨⟨h1, h2⟩, h3⟩ := hk
  have hi := h.iter h1 h3
  have hr : ∀ b, reach F' k b → reach F k b := fun b ⟨m, hm⟩ => ⟨m, by rw [← hi m]; exact hm⟩
  refine ⟨⟨?_, fun b hb => h2 b (hr b hb)⟩, fun hq => ?_⟩
  · obtain ⟨m, hm⟩ := h1
    exact ⟨m, by rw [hi]; exact hm⟩
  · obtain ⟨c, hc⟩ := cyc_some (cyc_reach h1 (hr q hq)).1
    rw [h.none1] at hc; cases hc
theorem Shifted.cyc {F F' : Nat → Option Nat} {n p q : Nat} (h : Shifted F F' p q) (hF : Within F n) (hF' : Within F' n) : cyc F n + b2 (onCyc F' q) = cyc F' n + b2 (onCyc F p) := by
  rw [cyc_but hF p, cyc_but hF' q, cnt_congr n (fun k _ => ⟨h.lead, h.symm.lead⟩)]
  omega
structure Turned (F G : Nat → Option Nat) : Prop where
  iff : ∀ a b, F a = some b ↔ G b = some a
theorem Turned.it {F G : Nat → Option Nat} (h : Turned F G) : ∀ m a b, it F m a = some b → it G m b = some a
  | 0, a, b, hm => by simp only [Pure.it, Option.some.injEq] at hm ⊢; omega
  | m + 1, a, b, hm => by
    simp only [Pure.it, Option.bind_eq_some_iff] at hm
    obtain ⟨c, hc, hm⟩ := hm
    rw [it_succ, h.it m c b hm]
    exact (h.iff a c).mp hc
theorem Turned.symm {F G : Nat → Option Nat} (h : Turned F G) : Turned G F := ⟨fun a b => (h.iff b a).symm⟩
theorem Turned.inj {F G : Nat → Option Nat} (h : Turned F G) : StepInj F := fun a b c ha hb => by
  have h1 := (h.iff a c).mp ha
  have h2 := (h.iff b c).mp hb
  rw [h1] at h2; exact Option.some.inj h2
theorem Turned.lead {F G : Nat → Option Nat} (h : Turned F G) {k : Nat} (hk : lead F k) : lead G k := by
  obtain ⟨⟨m, hm⟩, h2⟩ := hk
  refine ⟨⟨m, h.it _ _ _ hm⟩, fun b ⟨n, hb⟩ => h2 b (cyc_back h.inj ⟨m, hm⟩ ⟨n, h.symm.it _ _ _ hb⟩).2⟩
theorem Turned.cyc {F G : Nat → Option Nat} (h : Turned F G) (n : Nat) : cyc F n = cyc G n := cnt_congr n fun _ _ => ⟨h.lead, h.symm.lead⟩

theorem first_to {F : Nat → Option Nat} {a m : Nat} {P : Nat → Prop} (h : ∃ b, it F m a = some b ∧ P b) : ∃ m', (∃ b, it F m' a = some b ∧ P b) ∧ ∀ j, j < m' → ∀ b, it F j a = some b → ¬ P b := by
  obtain ⟨m', h1, h2⟩ := exists_least (p := fun m => ∃ b, it F m a = some b ∧ P b) ⟨m, h⟩
  exact ⟨m', h1, fun j hj b hb hP => by have := h2 j ⟨b, hb, hP⟩; omega⟩
theorem it_same {F F' : Nat → Option Nat} {a : Nat} {P : Nat → Prop} (hs : ∀ k, P k → F' k = F k) : ∀ m, (∀ j, j < m → ∀ b, it F j a = some b → P b) → it F' m a = it F m a
  | 0, _ => rfl
  | m + 1, h => by
    rw [it_succ, it_succ, it_same hs m (fun j hj => h j (by omega))]
    cases hb : it F m a with
    | none => rfl
    | some b => exact hs b (h m (by omega) b hb)
theorem it_within {F : Nat → Option Nat} {n a b : Nat} (h : Within F n) (ha : a < n) : ∀ m, it F m a = some b → b < n
  | 0, hm => by simp only [it, Option.some.injEq] at hm; omega
  | m + 1, hm => by
    rw [it_succ, Option.bind_eq_some_iff] at hm
    obtain ⟨c, _, hc⟩ := hm
    exact (h c b hc).2
theorem cyc_pred {F : Nat → Option Nat} {k : Nat} (h : onCyc F k) : ∃ b, F b = some k := by
  obtain ⟨m, hm⟩ := h
  rw [it_succ, Option.bind_eq_some_iff] at hm
  obtain ⟨b, _, hb⟩ := hm
  exact ⟨b, hb⟩
theorem cyc_cross {F F' : Nat → Option Nat} {n a b : Nat} (hF : Within F n) (hF' : Within F' n) (ha : a < n) (hb : b < n) (hab : a ≠ b) (ca : onCyc F a) (cb : onCyc F b) (cb' : onCyc F' b) (h0 : F' a = F b) (h1 : F' b = F a) (hr : ∀ k, k ≠ a → k ≠ b → F' k = F k) : cyc F' n = cyc F n + 1 ∨ cyc F n = cyc F' n + 1 := by
  obtain ⟨F1, hF1⟩ : ∃ F1 : Nat → Option Nat, F1 = fun k => if k = a then none else if k = n then F a else F k := ⟨_, rfl⟩
  obtain ⟨F2, hF2⟩ : ∃ F2 : Nat → Option Nat, F2 = fun k => if k = a then F b else if k = b then none else if k = n then F a else F k := ⟨_, rfl⟩
  have hn : F n = none := by
    cases h : F n with
    | none => rfl
    | some c => have := (hF n c h).1; omega
  have hn' : F' n = none := by
    cases h : F' n with
    | none => rfl
    | some c => have := (hF' n c h).1; omega
  have ww : ∀ {G : Nat → Option Nat}, (∀ k c, G k = some c → k < n + 1 ∧ c < n) → Within G (n + 1) := fun h k c hc => by have := h k c hc; omega
  have w0 : Within F (n + 1) := ww fun k c hc => by have := hF k c hc; omega
  have w3 : Within F' (n + 1) := ww fun k c hc => by have := hF' k c hc; omega
  have w1' : ∀ k c, F1 k = some c → k < n + 1 ∧ c < n := fun k c hc => by
    subst hF1
    dsimp only at hc
    split at hc
    · cases hc
    · split at hc
      · have := hF a c hc; omega
      · have := hF k c hc; omega
  have w2' : ∀ k c, F2 k = some c → k < n + 1 ∧ c < n := fun k c hc => by
    subst hF2
    dsimp only at hc
    split at hc
    · have := hF b c hc; omega
    · split at hc
      · cases hc
      · split at hc
        · have := hF a c hc; omega
        · have := hF k c hc; omega
  have w1 := ww w1'
  have w2 := ww w2'
  have s1 : Shifted F F1 a n := ⟨hn, by rw [hF1]; simp, by rw [hF1]; dsimp only; rw [if_neg (by omega), if_pos rfl], fun k k1 k2 => by rw [hF1]; dsimp only; rw [if_neg k1, if_neg k2]⟩
  have s2 : Shifted F1 F2 b a := ⟨by rw [hF1]; simp, by rw [hF2]; dsimp only; rw [if_neg (by omega), if_pos rfl], by rw [hF1, hF2]; dsimp only; rw [if_pos rfl, if_neg (by omega), if_neg (by omega)], fun k k1 k2 => by rw [hF1, hF2]; dsimp only; rw [if_neg k2, if_neg k1, if_neg k2]⟩
  have s3 : Shifted F2 F' n b := ⟨by rw [hF2]; dsimp only; rw [if_neg (by omega), if_pos rfl], hn', by rw [hF2]; dsimp only; rw [if_neg (by omega), if_neg (by omega), if_pos rfl]; exact h1, fun k k1 k2 => by
    rw [hF2]; dsimp only
    by_cases e : k = a
    · subst e; rw [if_pos rfl]; exact h0
    · rw [if_neg e, if_neg k2, if_neg k1]; exact hr k e k2⟩
  have e1 := s1.cyc w0 w1
  have e2 := s2.cyc w1 w2
  have e3 := s3.cyc w2 w3
  have no1 : ¬ onCyc F1 n := fun h => by obtain ⟨c, hc⟩ := cyc_pred h; have := (w1' c n hc).2; omega
  have no2 : ¬ onCyc F2 n := fun h => by obtain ⟨c, hc⟩ := cyc_pred h; have := (w2' c n hc).2; omega
  have l0 : ∀ {G : Nat → Option Nat}, (∀ k c, G k = some c → k < n) → cyc G (n + 1) = cyc G n := fun {G} h => by
    have : ¬ lead G n := fun hl => by obtain ⟨c, hc⟩ := cyc_some hl.1; have := h n c hc; omega
    show cnt _ n + b2 _ = cnt _ n
    rw [b2_neg this]; rfl
  rw [b2_pos ca, b2_neg no1] at e1
  rw [b2_pos cb', b2_neg no2] at e3
  rw [l0 fun k c hc => (hF k c hc).1] at e1
  rw [l0 fun k c hc => (hF' k c hc).1] at e3
  -- from where b leads: is a met first, or b
  obtain ⟨c, hc⟩ := cyc_some cb
  have hcn := (hF b c hc).2
  have hcb : ∃ m, it F m c = some b := by
    obtain ⟨m, hm⟩ := cb
    rw [it, hc] at hm; exact ⟨m, hm⟩
  obtain ⟨m0, hm0⟩ := hcb
  obtain ⟨m, ⟨x, hx, hP⟩, hf⟩ := first_to (P := fun x => x = a ∨ x = b) ⟨b, hm0, .inr rfl⟩
  have i1 : it F1 m c = some x := by
    rw [← hx]
    refine it_same (P := fun k => k ≠ a ∧ k ≠ n) (fun k hk => by rw [hF1]; dsimp only; rw [if_neg hk.1, if_neg hk.2]) m (fun j hj y hy => ⟨fun e => hf j hj y hy (.inl e), fun e => by have := it_within hF hcn j hy; omega⟩)
  have i2 : it F2 m c = some x := by
    rw [← hx]
    refine it_same (P := fun k => k ≠ a ∧ k ≠ b ∧ k ≠ n) (fun k hk => by rw [hF2]; dsimp only; rw [if_neg hk.1, if_neg hk.2.1, if_neg hk.2.2]) m (fun j hj y hy => ⟨fun e => hf j hj y hy (.inl e), fun e => hf j hj y hy (.inr e), fun e => by have := it_within hF hcn j hy; omega⟩)
  have f1b : F1 b = some c := by rw [hF1]; dsimp only; rw [if_neg (by omega), if_neg (by omega)]; exact hc
  have f2a : F2 a = some c := by rw [hF2]; dsimp only; rw [if_pos rfl]; exact hc
  rcases hP with e | e
  · subst e
    have y1 : ¬ onCyc F1 b := fun h => by
      obtain ⟨d, hd⟩ := cyc_some (cyc_reach h ⟨m + 1, by rw [it, f1b]; exact i1⟩).1
      rw [s2.none1] at hd; cases hd
    have y2 : onCyc F2 x := ⟨m, by rw [it, f2a]; exact i2⟩
    rw [b2_pos y2, b2_neg y1] at e2
    omega
  · subst e
    have y1 : onCyc F1 x := ⟨m, by rw [it, f1b]; exact i1⟩
    have y2 : ¬ onCyc F2 a := fun h => by
      obtain ⟨d, hd⟩ := cyc_some (cyc_reach h ⟨m + 1, by rw [it, f2a]; exact i2⟩).1
      rw [s2.none2] at hd; cases hd
    rw [b2_pos y1, b2_neg y2] at e2
    omega
theorem ring_all {F : Nat → Option Nat} {n p : Nat} {S : Nat → Prop} (hF : StepInj F) (hw : Within F n) (hS : ∀ k, S k → ∃ j, F k = some j ∧ S j) (hp : S p) : onCyc F p := by
  have hd : ∀ m, ∃ c, it F m p = some c ∧ S c := by
    intro m
    induction m with
    | zero => exact ⟨p, rfl, hp⟩
    | succ m ih =>
      obtain ⟨c, hc, hs⟩ := ih
      obtain ⟨d, hd, hs'⟩ := hS c hs
      exact ⟨d, by rw [it_succ, hc]; exact hd, hs'⟩
  by_cases hx : onCyc F p
  · exact hx
  · exfalso
    have h1 : cnt (fun _ => True) (n + 1) ≤ cnt (fun _ => True) n := by
      refine cnt_inj (fun m => (it F m p).getD 0) (n + 1) (fun i _ _ => ⟨?_, trivial⟩) (fun i j _ _ _ _ e => ?_)
      · obtain ⟨c, hc, hs⟩ := hd i
        rw [hc]
        obtain ⟨d, hd', _⟩ := hS c hs
        exact (hw c d hd').1
      · have key : ∀ i j, i < j → (it F i p).getD 0 = (it F j p).getD 0 → False := fun i j hij e => by
          obtain ⟨c, hc, _⟩ := hd i
          obtain ⟨c', hc', _⟩ := hd j
          rw [hc, hc'] at e
          have e' : c = c' := e
          subst e'
          obtain ⟨d, rfl⟩ : ∃ d, j = (d + 1) + i := ⟨j - i - 1, by omega⟩
          rw [it_add] at hc'
          obtain ⟨b, hb, _⟩ := hd (d + 1)
          rw [hb] at hc'
          have := it_inj hF i p b c hc hc'
          exact hx ⟨d, by rw [hb, this]⟩
        rcases Nat.lt_trichotomy i j with h | h | h
        · exact (key i j h e).elim
        · exact h
        · exact (key j i h e.symm).elim
    have h2 : ∀ m, cnt (fun _ => True) m = m := by
      intro m
      induction m with
      | zero => rfl
      | succ m ih => rw [cnt, ih, b2_pos trivial]
    rw [h2, h2] at h1
    omega

def stepO (y : List Int) (k : Nat) : Option Nat := if k < y.length then some (rd y (k : Int)).toNat else none
theorem stepO_iff {y : List Int} (h : y.Perm (idx y.length)) (a b : Nat) : stepO y a = some b ↔ a < y.length ∧ rd y (a : Int) = (b : Int) := by
  unfold stepO
  by_cases ha : a < y.length
  · rw [if_pos ha]
    have := ((perm_idx_iff y).mp h).2 y[a] (List.getElem_mem ha)
    rw [← rd_nat y a ha] at this
    constructor
    · intro e; injection e with e; exact ⟨ha, by omega⟩
    · rintro ⟨_, e⟩; congr 1; omega
  · rw [if_neg ha]
    exact ⟨fun e => (by cases e), fun e => absurd e.1 ha⟩
theorem stepO_within {y : List Int} (h : y.Perm (idx y.length)) : Within (stepO y) y.length := fun a b e => by
  have h1 := (stepO_iff h a b).mp e
  have := ((perm_idx_iff y).mp h).2 y[a] (List.getElem_mem h1.1)
  rw [← rd_nat y a h1.1] at this
  omega
theorem stepO_inj {y : List Int} (h : y.Perm (idx y.length)) : StepInj (stepO y) := fun a b c ha hb => by
  have h1 := (stepO_iff h a c).mp ha
  have h2 := (stepO_iff h b c).mp hb
  have e : y[a]'h1.1 = y[b]'h2.1 := by rw [← rd_nat y a h1.1, ← rd_nat y b h2.1]; omega
  exact (List.getElem_inj ((perm_idx_iff y).mp h).1).mp e
theorem stepO_some {y : List Int} (h : y.Perm (idx y.length)) (a : Nat) (ha : a < y.length) : ∃ b, stepO y a = some b ∧ b < y.length := by
  refine ⟨(rd y (a : Int)).toNat, by unfold stepO; rw [if_pos ha], ?_⟩
  exact (stepO_within h a _ (by unfold stepO; rw [if_pos ha])).2
theorem stepO_cyc {y : List Int} (h : y.Perm (idx y.length)) (a : Nat) (ha : a < y.length) : onCyc (stepO y) a :=
  ring_all (stepO_inj h) (stepO_within h) (S := fun k => k < y.length) (fun k hk => stepO_some h k hk) ha
theorem swap_perm {y : List Int} (h : y.Perm (idx y.length)) (h1 : 1 < y.length) : ((y.set 0 (rd y 1)).set 1 (rd y 0)).Perm (idx ((y.set 0 (rd y 1)).set 1 (rd y 0)).length) := by
  have hl : ((y.set 0 (rd y 1)).set 1 (rd y 0)).length = y.length := by simp
  rw [hl]
  refine List.Perm.trans ?_ h
  match y, h1 with
  | a :: b :: t, _ =>
    have e0 : rd (a :: b :: t) 0 = a := by have := rd_nat (a :: b :: t) 0 (by simp); simpa using this
    have e1 : rd (a :: b :: t) 1 = b := by have := rd_nat (a :: b :: t) 1 (by simp); simpa using this
    rw [e0, e1]
    exact List.Perm.swap a b t
theorem swap_cyc {y : List Int} (h : y.Perm (idx y.length)) (h1 : 1 < y.length) : cyc (stepO ((y.set 0 (rd y 1)).set 1 (rd y 0))) y.length = cyc (stepO y) y.length + 1 ∨ cyc (stepO y) y.length = cyc (stepO ((y.set 0 (rd y 1)).set 1 (rd y 0))) y.length + 1 := by
  have hz := swap_perm h h1
  have hl : ((y.set 0 (rd y 1)).set 1 (rd y 0)).length = y.length := by simp
  have hw := stepO_within hz
  have hc := stepO_cyc hz 1 (by omega)
  rw [hl] at hw
  refine cyc_cross (a := 0) (b := 1) (stepO_within h) hw (by omega) h1 (by omega) (stepO_cyc h 0 (by omega)) (stepO_cyc h 1 h1) hc ?_ ?_ (fun k k0 k1 => ?_)
  · unfold stepO; rw [hl, if_pos (by omega), if_pos h1]
    have := rd_setL (y.set 0 (rd y 1)) 1 0 (rd y 0) (by omega) (by simp; omega) (by omega)
    have h2 := rd_setL y 0 0 (rd y 1) (by omega) (by omega) (by omega)
    rw [if_neg (by omega)] at this
    rw [if_pos rfl] at h2
    have e : rd ((y.set 0 (rd y 1)).set 1 (rd y 0)) ((0 : Nat) : Int) = rd y ((1 : Nat) : Int) := this.trans h2
    rw [e]
  · unfold stepO; rw [hl, if_pos h1, if_pos (by omega)]
    have := rd_setL (y.set 0 (rd y 1)) 1 1 (rd y 0) (by omega) (by simp; omega) (by omega)
    rw [if_pos rfl] at this
    have e : rd ((y.set 0 (rd y 1)).set 1 (rd y 0)) ((1 : Nat) : Int) = rd y ((0 : Nat) : Int) := this
    rw [e]
  · unfold stepO; rw [hl]
    by_cases hk : k < y.length
    · rw [if_pos hk, if_pos hk]
      have := rd_setL (y.set 0 (rd y 1)) 1 (k : Int) (rd y 0) (by omega) (by simp; omega) (by omega)
      have h2 := rd_setL y 0 (k : Int) (rd y 1) (by omega) (by omega) (by omega)
      rw [if_neg (by omega)] at this h2
      have e : rd ((y.set 0 (rd y 1)).set 1 (rd y 0)) (k : Int) = rd y (k : Int) := this.trans h2
      rw [e]
    · rw [if_neg hk, if_neg hk]
def gone (F : Nat → Option Nat) (i x : Nat) : Prop := ∃ j, j < i ∧ reach F j x
def goneTo (F : Nat → Option Nat) (i m x : Nat) : Prop := gone F i x ∨ ∃ t, t < m ∧ it F t i = some x
theorem gone_lead {F : Nat → Option Nat} {i : Nat} (hF : StepInj F) (hc : onCyc F i) : ¬ gone F i i ↔ lead F i := by
  constructor
  · intro h
    refine ⟨hc, fun b hb => ?_⟩
    rcases Nat.lt_or_ge b i with hlt | hge
    · exact absurd ⟨b, hlt, (cyc_reach hc hb).2⟩ h
    · exact hge
  · rintro ⟨_, h⟩ ⟨j, hj, hr⟩
    have := h j (cyc_back hF hc hr).2
    omega
theorem gone_step {F : Nat → Option Nat} {i m x : Nat} (hF : StepInj F) (hc : onCyc F i) (hi : ¬ gone F i i) (hx : it F m i = some x) (hg : goneTo F i m x) : ∀ y, goneTo F i m y ↔ gone F (i + 1) y := by
  have hnx : ¬ gone F i x := fun ⟨j, hj, hr⟩ => by
    have h1 := cyc_reach hc ⟨m, hx⟩
    exact hi ⟨j, hj, reach_trans hr h1.2⟩
  obtain ⟨t, ht, hxt⟩ := hg.resolve_left hnx
  have all : ∀ s y, it F s i = some y → ∃ t, t < m ∧ it F t i = some y := by
    intro s
    induction s using Nat.strongRecOn with
    | ind s ih =>
      intro y hy
      rcases Nat.lt_or_ge s m with h | h
      · exact ⟨s, h, hy⟩
      · obtain ⟨d, rfl⟩ : ∃ d, s = m + d := ⟨s - m, by omega⟩
        refine ih (t + d) (by omega) y ?_
        rw [it_add, hxt]
        rw [it_add, hx] at hy
        exact hy
  intro y
  constructor
  · rintro (⟨j, hj, hr⟩ | ⟨s, _, hs⟩)
    · exact ⟨j, by omega, hr⟩
    · exact ⟨i, by omega, s, hs⟩
  · rintro ⟨j, hj, s, hs⟩
    rcases Nat.lt_or_ge j i with h | h
    · exact .inl ⟨j, h, s, hs⟩
    · obtain rfl : j = i := by omega
      exact .inr (all s y hs)
theorem gone_same {F : Nat → Option Nat} {i : Nat} (hF : StepInj F) (hc : onCyc F i) (hi : gone F i i) : ∀ y, gone F i y ↔ gone F (i + 1) y := by
  intro y
  constructor
  · rintro ⟨j, hj, hr⟩; exact ⟨j, by omega, hr⟩
  · rintro ⟨j, hj, hr⟩
    rcases Nat.lt_or_ge j i with h | h
    · exact ⟨j, h, hr⟩
    · obtain rfl : j = i := by omega
      obtain ⟨q, hq, hr'⟩ := hi
      exact ⟨q, hq, reach_trans hr' hr⟩
def Marks (met : List Bool) (n : Nat) (P : Nat → Prop) : Prop := met.length = n ∧ ∀ x, x < n → (rdOf false met (x : Int) = true ↔ P x)
theorem Marks.set {met : List Bool} {n : Nat} {P Q : Nat → Prop} (h : Marks met n P) (x : Nat) (hx : x < n) (hq : ∀ y, Q y ↔ P y ∨ y = x) : Marks (met.set x true) n Q := by
  refine ⟨by rw [List.length_set]; exact h.1, fun y hy => ?_⟩
  have hl := h.1
  unfold rdOf at *
  rw [Int.toNat_natCast, List.getD_eq_getElem?_getD, List.getElem?_set]
  by_cases e : x = y
  · subst e
    rw [if_pos rfl, if_pos (by omega)]
    exact ⟨fun _ => (hq x).mpr (.inr rfl), fun _ => rfl⟩
  · rw [if_neg e]
    have := h.2 y hy
    unfold rdOf at this
    rw [Int.toNat_natCast, List.getD_eq_getElem?_getD] at this
    rw [this, hq y]
    exact ⟨.inl, fun h => h.resolve_right (fun e' => e e'.symm)⟩
theorem Marks.congr {met : List Bool} {n : Nat} {P Q : Nat → Prop} (h : Marks met n P) (hq : ∀ y, P y ↔ Q y) : Marks met n Q := ⟨h.1, fun x hx => (h.2 x hx).trans (hq x)⟩
theorem Marks.none (n : Nat) (P : Nat → Prop) (hP : ∀ x, ¬ P x) : Marks (List.replicate n false) n P := by
  refine ⟨by simp, fun x hx => ?_⟩
  unfold rdOf
  rw [Int.toNat_natCast, List.getD_eq_getElem?_getD, List.getElem?_replicate, if_pos hx]
  exact ⟨fun h => (by cases h), fun h => absurd h (hP x)⟩
noncomputable def unmarked (met : List Bool) (n : Nat) : Nat := cnt (fun x => ¬ rdOf false met (x : Int) = true) n
theorem unmarked_set {met : List Bool} {n : Nat} {P : Nat → Prop} (h : Marks met n P) (x : Nat) (hx : x < n) (hn : ¬ rdOf false met (x : Int) = true) : unmarked met n = unmarked (met.set x true) n + 1 := by
  unfold unmarked
  rw [cnt_but (p := fun x => ¬ rdOf false met (x : Int) = true) hx hn]
  congr 1
  refine cnt_congr n fun y hy => ?_
  have h2 := (h.set x hx (Q := fun y => P y ∨ y = x) (fun _ => Iff.rfl)).2 y hy
  have h1 := h.2 y hy
  rw [h1, h2]
  constructor
  · rintro ⟨a, b⟩ (c | c)
    · exact a c
    · exact b c
  · intro a; exact ⟨fun c => a (.inl c), fun c => a (.inr c)⟩

noncomputable def cycSF (y : List Int) : Int × Bool := @ite _ (y.length ≤ 10 ∧ isOrd y (y.length : Int)) (Classical.propDecidable _) ((cyc (stepO y) y.length : Int), true) (0, false)
theorem cycSF_pos {y : List Int} (h : y.length ≤ 10 ∧ isOrd y (y.length : Int)) : cycSF y = ((cyc (stepO y) y.length : Int), true) := by unfold cycSF; rw [if_pos h]
theorem cycSF_neg {y : List Int} (h : ¬ (y.length ≤ 10 ∧ isOrd y (y.length : Int))) : cycSF y = (0, false) := by unfold cycSF; rw [if_neg h]
theorem goneTo_zero (F : Nat → Option Nat) (i : Nat) : ∀ y, gone F i y ↔ goneTo F i 0 y := fun y => ⟨.inl, fun h => h.resolve_right (fun ⟨t, ht, _⟩ => by omega)⟩
theorem goneTo_succ (F : Nat → Option Nat) (i m x : Nat) (hx : it F m i = some x) : ∀ y, goneTo F i (m + 1) y ↔ goneTo F i m y ∨ y = x := fun y => by
  constructor
  · rintro (h | ⟨t, ht, h⟩)
    · exact .inl (.inl h)
    · rcases Nat.lt_or_ge t m with h1 | h1
      · exact .inl (.inr ⟨t, h1, h⟩)
      · obtain rfl : t = m := by omega
        rw [hx] at h; exact .inr (Option.some.inj h).symm
  · rintro ((h | ⟨t, ht, h⟩) | h)
    · exact .inl h
    · exact .inr ⟨t, by omega, h⟩
    · exact .inr ⟨m, by omega, by rw [hx, h]⟩

theorem impl_ring_ev {y : List Int} (h : y.Perm (idx y.length)) (hl : y.length ≤ 10) (i : Nat) (hi : i < y.length) (hnew : ¬ gone (stepO y) i i) (c : Int) (r : Int × Bool)
    (hn : ∀ met, Marks met y.length (gone (stepO y) (i + 1)) → Ev (fun k => impl_CyclesIn.l0 k y met c (y.length : Int) ((i + 1 : Nat) : Int)) r) :
    ∀ (d : Nat) (met : List Bool) (m x : Nat), unmarked met y.length = d → Marks met y.length (goneTo (stepO y) i m) → it (stepO y) m i = some x → Ev (fun k => impl_CyclesIn.l1 k y met c (x : Int) (y.length : Int) (i : Int)) r := by
  intro d
  induction d using Nat.strongRecOn with
  | ind d ih =>
    intro met m x hd hM hx
    have hxl : x < y.length := it_within (stepO_within h) hi m hx
    have hml := hM.1
    refine Ev.succ ?_
    simp only [impl_CyclesIn.l1]
    refine Ev.pos (by omega) (Ev.pos (by omega) (Ev.ite (fun hm => ?_) (fun hm => Ev.pos (by omega) ?_)))
    · rw [w64 (by omega) (by omega)]
      exact hn met (hM.congr (gone_step (stepO_inj h) (stepO_cyc h i hi) hnew hx ((hM.2 x hxl).mp hm)))
    · obtain ⟨b, hb, hbl⟩ := stepO_some h x hxl
      have hbr := ((stepO_iff h x b).mp hb).2
      rw [toNat_nat, hbr]
      have hu := unmarked_set hM x hxl hm
      exact ih (unmarked (met.set x true) y.length) (by omega) (met.set x true) (m + 1) b rfl (hM.set x hxl (goneTo_succ _ i m x hx)) (by rw [it_succ, hx]; exact hb)
theorem impl_CyclesIn_ev (y : List Int) (hl : y.length ≤ 1048576) : Ev (fun k => impl_CyclesIn.f k y) (cycSF y) := by
  unfold impl_CyclesIn.f
  refine Ev.ite (fun h1 => ?_) (fun h1 => Ev.bind0 (impl_isOrder_eq y _ hl) ?_)
  · rw [cycSF_neg (fun q => by omega)]
    refine Ev.succ ?_
    simp only [impl_CyclesIn.j0]
    exact Ev.pos trivial (Ev.now _)
  · refine Ev.succ ?_
    simp only [impl_CyclesIn.j0]
    by_cases h2 : isOrd y (y.length : Int)
    · rw [cycSF_pos ⟨by omega, h2⟩]
      have hp := h2.2
      refine Ev.neg (by simp [h2]) (Ev.pos (by omega) (Ev.pos (by omega) ?_))
      rw [toNat_nat]
      have main : ∀ (d i : Nat), i + d = y.length → ∀ met, Marks met y.length (gone (stepO y) i) → Ev (fun k => impl_CyclesIn.l0 k y met (cnt (lead (stepO y)) i : Int) (y.length : Int) (i : Int)) ((cyc (stepO y) y.length : Int), true) := by
        intro d
        induction d with
        | zero =>
          intro i hi met hM
          obtain rfl : i = y.length := by omega
          refine Ev.succ ?_
          simp only [impl_CyclesIn.l0]
          exact Ev.neg (by omega) (Ev.now _)
        | succ d ih =>
          intro i hi met hM
          have hil : i < y.length := by omega
          have hml := hM.1
          have hc := stepO_cyc hp i hil
          have hb := cnt_le_n (lead (stepO y)) i
          refine Ev.succ ?_
          simp only [impl_CyclesIn.l0]
          refine Ev.pos (by omega) (Ev.pos (by omega) (Ev.pos (by omega) (Ev.ite (fun hm => ?_) (fun hm => ?_))))
          · have hg := (hM.2 i hil).mp hm
            have hnl : ¬ lead (stepO y) i := fun hl => (gone_lead (stepO_inj hp) hc).mpr hl hg
            have := ih (i + 1) (by omega) met (hM.congr (gone_same (stepO_inj hp) hc hg))
            rw [cnt, b2_neg hnl] at this
            rw [w64 (by omega) (by omega)]; exact this
          · have hg : ¬ gone (stepO y) i i := fun q => hm ((hM.2 i hil).mpr q)
            have hld := (gone_lead (stepO_inj hp) hc).mp hg
            have hnx := fun met hM' => ih (i + 1) (by omega) met hM'
            rw [w64 (by omega) (by omega)]
            refine impl_ring_ev hp (by omega) i hil hg _ _ (fun met hM' => ?_) _ met 0 i rfl (hM.congr (goneTo_zero _ _)) rfl
            have := hnx met hM'
            rw [cnt, b2_pos hld] at this
            exact this
      have := main y.length 0 (by omega) (List.replicate y.length false) (Marks.none _ _ (fun x ⟨j, hj, _⟩ => by omega))
      simpa [cnt] using this
    · rw [cycSF_neg (fun q => h2 q.2)]
      exact Ev.pos (by simp [h2]) (Ev.now _)

theorem spec_ring_ev {y : List Int} (h : y.Perm (idx y.length)) (hl : y.length ≤ 10) (i : Nat) (hi : i < y.length) (hnew : ¬ gone (stepO y) i i) (out : List (List Int)) (ho : out.length ≤ 10) (r : List (List Int) → Prop)
    (hn : ∀ met ring, Marks met y.length (gone (stepO y) (i + 1)) → ∃ z, r z ∧ Ev (fun k => spec_l7Rings.l0 k y met (out ++ [ring]) (y.length : Int) ((i + 1 : Nat) : Int)) z) :
    ∀ (d : Nat) (met : List Bool) (ring : List Int) (m x : Nat), unmarked met y.length = d → d + ring.length ≤ 10 → (m = 0 ∨ 0 < ring.length) → Marks met y.length (goneTo (stepO y) i m) → it (stepO y) m i = some x → ∃ z, r z ∧ Ev (fun k => spec_l7Rings.l1 k y met out ring (x : Int) (y.length : Int) (i : Int)) z := by
  intro d
  induction d using Nat.strongRecOn with
  | ind d ih =>
    intro met ring m x hd hdr hm0 hM hx
    have hxl : x < y.length := it_within (stepO_within h) hi m hx
    have hml := hM.1
    by_cases hm : rdOf false met (x : Int) = true
    · have hg := (hM.2 x hxl).mp hm
      have hr0 : 0 < ring.length := by
        rcases hm0 with e | e
        · subst e
          have e : x = i := by simp only [it, Option.some.injEq] at hx; omega
          subst e
          exact absurd (((goneTo_zero _ _) x).mpr hg) hnew
        · exact e
      obtain ⟨z, hz, hev⟩ := hn met ring (hM.congr (gone_step (stepO_inj h) (stepO_cyc h i hi) hnew hx hg))
      refine ⟨z, hz, Ev.succ ?_⟩
      simp only [spec_l7Rings.l1]
      rw [w64 (by omega) (by omega)]
      exact Ev.pos (by omega) (Ev.pos (by omega) (Ev.pos hm (Ev.pos (by omega) (Ev.pos (by omega) hev))))
    · obtain ⟨b, hb, hbl⟩ := stepO_some h x hxl
      have hbr := ((stepO_iff h x b).mp hb).2
      have hu := unmarked_set hM x hxl hm
      obtain ⟨z, hz, hev⟩ := ih (unmarked (met.set x true) y.length) (by omega) (met.set x true) (ring ++ [(x : Int)]) (m + 1) b rfl (by simp; omega) (by simp) (hM.set x hxl (goneTo_succ _ i m x hx)) (by rw [it_succ, hx]; exact hb)
      refine ⟨z, hz, Ev.succ ?_⟩
      simp only [spec_l7Rings.l1]
      rw [toNat_nat, hbr]
      exact Ev.pos (by omega) (Ev.pos (by omega) (Ev.neg hm (Ev.pos (by omega) (Ev.pos (by omega) hev))))
theorem spec_CyclesIn_ev (y : List Int) (hl : y.length ≤ 1048576) : Ev (fun k => spec_CyclesIn.f k y) (cycSF y) := by
  unfold spec_CyclesIn.f
  refine Ev.ite (fun h1 => ?_) (fun h1 => Ev.bind (spec_l7Order_ev y _ hl) (Ev.ite (fun h2 => ?_) (fun h2 => ?_)))
  · rw [cycSF_neg (fun q => by omega)]; exact Ev.now _
  · have h2 := of_decide_eq_true h2
    have hp := h2.2
    rw [cycSF_pos ⟨by omega, h2⟩]
    have main : ∀ (d i : Nat), i + d = y.length → ∀ met out, Marks met y.length (gone (stepO y) i) → out.length = cnt (lead (stepO y)) i → ∃ z : List (List Int), z.length = cyc (stepO y) y.length ∧ Ev (fun k => spec_l7Rings.l0 k y met out (y.length : Int) (i : Int)) z := by
      intro d
      induction d with
      | zero =>
        intro i hi met out hM ho
        obtain rfl : i = y.length := by omega
        refine ⟨out, ho, Ev.succ ?_⟩
        simp only [spec_l7Rings.l0]
        exact Ev.neg (by omega) (Ev.now _)
      | succ d ih =>
        intro i hi met out hM ho
        have hil : i < y.length := by omega
        have hml := hM.1
        have hc := stepO_cyc hp i hil
        have hb := cnt_le_n (lead (stepO y)) i
        by_cases hm : rdOf false met (i : Int) = true
        · have hg := (hM.2 i hil).mp hm
          have hnl : ¬ lead (stepO y) i := fun hl => (gone_lead (stepO_inj hp) hc).mpr hl hg
          obtain ⟨z, hz, hev⟩ := ih (i + 1) (by omega) met out (hM.congr (gone_same (stepO_inj hp) hc hg)) (by rw [cnt, b2_neg hnl]; omega)
          refine ⟨z, hz, Ev.succ ?_⟩
          simp only [spec_l7Rings.l0]
          refine Ev.pos (by omega) (Ev.succ ?_)
          simp only [spec_l7Rings.l1]
          rw [w64 (by omega) (by omega)]
          exact Ev.pos (by omega) (Ev.pos (by omega) (Ev.pos hm (Ev.neg (by simp) hev)))
        · have hg : ¬ gone (stepO y) i i := fun q => hm ((hM.2 i hil).mpr q)
          have hld := (gone_lead (stepO_inj hp) hc).mp hg
          have hul : unmarked met y.length ≤ y.length := cnt_le_n _ _
          obtain ⟨z, hz, hev⟩ := spec_ring_ev hp (by omega) i hil hg out (by omega) (fun z => z.length = cyc (stepO y) y.length) (fun met' ring hM' => ih (i + 1) (by omega) met' (out ++ [ring]) hM' (by rw [cnt, b2_pos hld]; simp; omega)) _ met [] 0 i rfl (by simp; omega) (.inl rfl) (hM.congr (goneTo_zero _ _)) rfl
          refine ⟨z, hz, Ev.succ ?_⟩
          simp only [spec_l7Rings.l0]
          exact Ev.pos (by omega) hev
    obtain ⟨z, hz, hev⟩ := main y.length 0 (by omega) (List.replicate y.length false) [] (Marks.none _ _ (fun x ⟨j, hj, _⟩ => by omega)) (by simp [cnt])
    refine Ev.bind (r := ((cyc (stepO y) y.length : Int), true)) (a := z) ?_ (Ev.to (Ev.now _) (by rw [hz]))
    unfold spec_l7Rings.f
    refine Ev.pos (by omega) (Ev.pos (by omega) ?_)
    rw [toNat_nat]; exact hev
  · rw [cycSF_neg (fun q => h2 (decide_eq_true q.2))]; exact Ev.now _

theorem spec_DrawSmithCost_ev (l : List Int) (hl : bytesOk l) : ∃ (f : List S168) (o : List Int), Ev (fun k => spec_DrawSmithCost.f k l) (f, o) ∧ f.length ≤ 7 ∧ o.length ≤ 7 := by
  obtain ⟨f, a, s, e, h1, h2, h3⟩ := cur_families l 0 0 hl (by omega)
  obtain ⟨o, a', s', e', h4, _⟩ := cur_order7 l a s f.length hl (by omega) (by omega)
  exact ⟨f, o, Ev.bind e (Ev.bind e' (Ev.now _)), h1, by omega⟩
theorem spec_DrawIsOrder_ev (l : List Int) (hl : bytesOk l) : ∃ (o : List Int) (m : Int), Ev (fun k => spec_DrawIsOrder.f k l) (o, m) ∧ o.length ≤ 7 := by
  obtain ⟨n, a, s, e, h1, h2, h3⟩ := cur_pick l 0 0 7 hl (by omega)
  obtain ⟨o, a', s', e', h4, h5, h6⟩ := cur_order7 l a s n.toNat hl (by omega) (by omega)
  obtain ⟨m, a2, s2, e2, _⟩ := cur_pick l a' s' 9 hl (by omega)
  rw [show ((n.toNat : Nat) : Int) = n by omega] at e'
  exact ⟨o, _, Ev.bind0 e (Ev.bind e' (Ev.bind0 e2 (Ev.now _))), by omega⟩
theorem spec_DrawCyclesIn_ev (l : List Int) (hl : bytesOk l) : ∃ (o : List Int), Ev (fun k => spec_DrawCyclesIn.f k l) o ∧ o.length ≤ 12 := by
  obtain ⟨n, a, s, e, h1, h2, h3⟩ := cur_pick l 0 0 12 hl (by omega)
  obtain ⟨o, a', s', e', h4, h5, h6⟩ := cur_order7 l a s n.toNat hl (by omega) (by omega)
  rw [show ((n.toNat : Nat) : Int) = n by omega] at e'
  exact ⟨o, Ev.bind0 e (Ev.bind e' (Ev.now _)), by omega⟩

theorem smith_j2 (y : List Int) (hy : y.length ≤ 12) : Ev (fun k => laws_FnSmith.j2 k y (cycSF y).1 (cycSF y).2 false) true := by
  refine Ev.succ ?_
  simp only [laws_FnSmith.j2, Bool.false_eq_true, if_false]
  by_cases h : y.length ≤ 10 ∧ isOrd y (y.length : Int)
  · rw [cycSF_pos h]
    refine Ev.pos rfl (Ev.ite (fun h1 => ?_) (fun _ => Ev.now _))
    have h1' : 1 < y.length := by omega
    refine Ev.bind0 rfl (Ev.pos (by simp; omega) (Ev.bind0 rfl (Ev.pos (by omega) (Ev.pos (by simp; omega) (Ev.pos (by omega) (Ev.pos (by simp; omega) ?_))))))
    rw [List.nil_append]
    have hz := swap_perm h.2.2 h1'
    have hl : ((y.set 0 (rd y 1)).set 1 (rd y 0)).length = y.length := by simp
    have hc := swap_cyc h.2.2 h1'
    have he := cycSF_pos (y := (y.set 0 (rd y 1)).set 1 (rd y 0)) ⟨by rw [hl]; exact h.1, rfl, hz⟩
    have b1 : cyc (stepO y) y.length ≤ y.length := cnt_le_n _ _
    have b2 : cyc (stepO ((y.set 0 (rd y 1)).set 1 (rd y 0))) y.length ≤ y.length := cnt_le_n _ _
    have hev := impl_CyclesIn_ev ((y.set 0 (rd y 1)).set 1 (rd y 0)) (by rw [hl]; omega)
    rw [he, hl] at hev
    refine Ev.bind hev (Ev.pos rfl ?_)
    dsimp only
    rw [w64 (by omega) (by omega), w64 (by omega) (by omega)]
    refine Ev.ite (fun _ => Ev.now _) (fun h5 => Ev.to (Ev.now _) ?_)
    rw [beq_iff_eq]; omega
  · rw [cycSF_neg h]
    exact Ev.neg (by simp) (Ev.now _)
theorem smith_j1 (l : List Int) (hl : bytesOk l) : Ev (fun k => laws_FnSmith.j1 k l) true := by
  refine Ev.succ ?_
  simp only [laws_FnSmith.j1]
  obtain ⟨o, m, e1, h1⟩ := spec_DrawIsOrder_ev l hl
  obtain ⟨y, e2, h2⟩ := spec_DrawCyclesIn_ev l hl
  refine Ev.bind e1 (Ev.bind0 (impl_IsOrder_eq o m (by omega)) (Ev.bind (spec_IsOrder_ev o m (by omega)) (Ev.bind e2 (Ev.bind (impl_CyclesIn_ev y (by omega)) (Ev.bind (spec_CyclesIn_ev y (by omega)) ?_)))))
  simp only [bne_self_eq_false, Bool.false_eq_true, if_false]
  exact smith_j2 y (by omega)
theorem FnSmith : laws_FnSmith.Pure := by
  intro l0 l1 _ hl0 hw0 _ hl1 hw1
  have b0 := bytesOk_of l0 hw0
  have b1 := bytesOk_of l1 hw1
  refine Ev.rounds (g := fun k => laws_FnSmith.f k l0 l1) ?_
  unfold laws_FnSmith.f
  refine Ev.ite (fun _ => Ev.now _) fun hg => ?_
  obtain ⟨f, o, e, h1, h2⟩ := spec_DrawSmithCost_ev l0 b0
  have hol : (orderSF f).1.length ≤ 7 := by
    unfold orderSF; split
    · show (isl _ _).length ≤ 7; rw [isl_idx_length]; omega
    · simp
  refine Ev.bind e (Ev.bind (impl_SmithCost_ev f o (by omega) (by omega)) (Ev.bind (spec_SmithCost_ev f o (by omega) (by omega)) (Ev.bind (impl_SmithOrder_ev f (by omega)) (Ev.bind (spec_SmithOrder_ev f (by omega)) ?_))))
  simp only [bne_self_eq_false, Bool.false_eq_true, if_false, if_true]
  refine Ev.bind (laws_sameInts_ev _ _ (by omega)) (Ev.succ ?_)
  simp only [decide_true, Bool.not_true, laws_FnSmith.j0, Bool.false_eq_true, if_false]
  have hj := smith_j1 l1 b1
  by_cases hf : famOk f = true
  · have eo : orderSF f = (isl (ltSm f) (idx f.length), true) := by unfold orderSF; rw [if_pos hf]
    obtain ⟨g1, g2⟩ := smithOrd_best hf
    have ec : costSF f (isl (ltSm f) (idx f.length)) = (smithC (famW f) (famM f) 0 (isl (ltSm f) (idx f.length)), true) := by unfold costSF; rw [if_pos ⟨hf, g1⟩]
    rw [eo]
    have hev := impl_SmithCost_ev f (isl (ltSm f) (idx f.length)) (by omega) (by rw [isl_idx_length]; omega)
    rw [ec] at hev
    refine Ev.pos rfl (Ev.bind hev (Ev.pos rfl ?_))
    dsimp only
    refine Ev.ite (fun hc => Ev.neg ?_ hj) (fun _ => hj)
    have ho : isOrd o (f.length : Int) := by
      unfold costSF at hc; split at hc
      case isTrue h => exact h.2
      case isFalse => simp at hc
    have eo2 : costSF f o = (smithC (famW f) (famM f) 0 o, true) := by unfold costSF; rw [if_pos ⟨hf, ho⟩]
    rw [eo2]
    have := g2 o ho
    dsimp only; omega
  · have eo : orderSF f = ([], false) := by unfold orderSF; rw [if_neg hf]
    rw [eo]
    exact Ev.neg (by simp) hj
end Go.Proofs.Ytneojimdhnhkeaa.Pure
