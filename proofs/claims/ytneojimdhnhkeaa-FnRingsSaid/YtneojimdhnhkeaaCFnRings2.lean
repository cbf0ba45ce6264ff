/- Nothing is needed just where all is as wanted, there as much as back, and by a third as much at least, for drawn spots: no condition but the statement's own. -/
import Derived.Test.YtneojimdhnhkeaaCFnRings0
import Derived.Test.YtneojimdhnhkeaaCFnRings1
import Derived.RangeFuncCalls
set_option linter.unusedVariables false
set_option linter.unusedSimpArgs false
namespace Go.Proofs.Ytneojimdhnhkeaa.Print
open Go.RowKit Go.Proofs.YtneojimdhnhkeaaW.PrintWords Go.Proofs.YtneojimdhnhkeaaW.PrintLast Go.Proofs.YtneojimdhnhkeaaW.PrintMore
attribute [local go_sem] max2_int min2_int max_two min_two max_three min_three max_four min_four

mutual
def laws_FnRings.j0:Nat→List Int→List Int→List Int→Int→Int→Bool→Bool→Option (Bool)
  |0,_,_,_,_,_,_,_=>none
  |k+1,x1,x5,x6,x7,x8,x9,x62=>if x62=true then (some false) else (if x9=true then ((impl_MovesNeeded.f k x5 x6).bind fun bt113=>((impl_MovesNeeded.f k x6 x5).bind fun bt115=>(if bt113.2=true then (if bt113.1=(wrap64 (x7+x8)) then (if bt115.2=true then (if bt115.1=bt113.1 then ((laws_sameInts.f k x5 x6).bind fun t117=>(if ((bt113.1 == 0) != t117)=true then (laws_FnRings.j1 k x1 x5 x6 bt113.1 true) else (laws_FnRings.j1 k x1 x5 x6 bt113.1 (decide ((wrap64 (2 * x8)) > x7))))) else (laws_FnRings.j1 k x1 x5 x6 bt113.1 true)) else (laws_FnRings.j1 k x1 x5 x6 bt113.1 true)) else (laws_FnRings.j1 k x1 x5 x6 bt113.1 true)) else (laws_FnRings.j1 k x1 x5 x6 bt113.1 true)))) else (some true))
def laws_FnRings.j1:Nat→List Int→List Int→List Int→Int→Bool→Option (Bool)
  |0,_,_,_,_,_=>none
  |k+1,x1,x5,x6,x13,x107=>if x107=true then (some false) else ((some (([]:List Int):List Int)).bind fun y118=>(if y118.length+x5.length<17592186044416 then ((some (y118 ++ x5:List Int)).bind fun y121=>((laws_numberOf.f k x1).bind fun t124=>(if (y121.length:Int)=0 then (none) else ((laws_numberOf.f k x1).bind fun t125=>(if 0≤(Int.tmod t124 (y121.length:Int)) then (if (Int.tmod t124 (y121.length:Int))<(y121.length:Int) then (if 0≤(Int.tmod (wrap64 (Int.tdiv t125 11)) (y121.length:Int)) then (if (Int.tmod (wrap64 (Int.tdiv t125 11)) (y121.length:Int))<(y121.length:Int) then ((some ((y121.set ((Int.tmod t124 (y121.length:Int)):Int).toNat (rd y121 (Int.tmod (wrap64 (Int.tdiv t125 11)) (y121.length:Int)))).set ((Int.tmod (wrap64 (Int.tdiv t125 11)) (y121.length:Int)):Int).toNat (rd y121 (Int.tmod t124 (y121.length:Int))):List Int)).bind fun y129=>((impl_MovesNeeded.f k x5 y129).bind fun bt130=>((impl_MovesNeeded.f k y129 x6).bind fun bt132=>(if bt130.2=true then (if bt132.2=true then (if x13 > (wrap64 (bt130.1+bt132.1)) then (some false) else (some true)) else (some false)) else (some false))))) else (none)) else (none)) else (none)) else (none)))))) else (none)))
end
def laws_FnRings.f (k:Nat) (l0:List Int) (l1:List Int):Option (Bool):=if (wrap64 ((l0.length:Int)+(l1.length:Int))) > 1048576 then (some true) else ((spec_DrawRingsOf.f k l0).bind fun bt101=>((impl_RingsOf.f k bt101.1 bt101.2).bind fun bt107=>((spec_RingsOf.f k bt101.1 bt101.2).bind fun bt110=>(if (bt107.2.2 != bt110.2.2)=true then (laws_FnRings.j0 k l1 bt101.1 bt101.2 bt107.1 bt107.2.1 bt107.2.2 true) else (if bt107.1=bt110.1 then (laws_FnRings.j0 k l1 bt101.1 bt101.2 bt107.1 bt107.2.1 bt107.2.2 (bt107.2.1 != bt110.2.1)) else (laws_FnRings.j0 k l1 bt101.1 bt101.2 bt107.1 bt107.2.1 bt107.2.2 true))))))
set_option maxHeartbeats 8000000 in
set_option maxRecDepth 100000 in
theorem laws_FnRings.calls (k:Nat) (A0:Option Addr) (c0:Nat) (l0:List Int) (A1:Option Addr) (c1:Nat) (l1:List Int) (r:Bool) (w:World) (hr0:Kd.C (Kd.int .u8) w A0 l0.length l0) (hc0:l0.length≤c0) (hr1:Kd.C (Kd.int .u8) w A1 l1.length l1) (hc1:l1.length≤c1) (h:laws_FnRings.f k l0 l1=some r) :
    Calls Try.prog 6 #[.slice A0 l0.length c0,.slice A1 l1.length c1] w fun e w'=>e= .returned (.bool r)∧Below w.heap.size w w':=by
  have HR0:=aM hr0;have HC0:=aM hc0;clear hr0 hc0;have HR1:=aM hr1;have HC1:=aM hc1;clear hr1 hc1;have HB:=aM (Below.refl w.heap.size w);have H:(if (wrap64 ((l0.length:Int)+(l1.length:Int))) > 1048576 then (some true) else ((spec_DrawRingsOf.f k l0).bind fun bt101=>((impl_RingsOf.f k bt101.1 bt101.2).bind fun bt107=>((spec_RingsOf.f k bt101.1 bt101.2).bind fun bt110=>(if (bt107.2.2 != bt110.2.2)=true then (laws_FnRings.j0 k l1 bt101.1 bt101.2 bt107.1 bt107.2.1 bt107.2.2 true) else (if bt107.1=bt110.1 then (laws_FnRings.j0 k l1 bt101.1 bt101.2 bt107.1 bt107.2.1 bt107.2.2 (bt107.2.1 != bt110.2.1)) else (laws_FnRings.j0 k l1 bt101.1 bt101.2 bt107.1 bt107.2.1 bt107.2.2 true)))))))=some r:=h;clear h;by_cases c3:(wrap64 ((l0.length:Int)+(l1.length:Int))) > 1048576
  ·rw [if_pos c3] at H;have c3b0:decide (1048576<(wrap64 ((l0.length:Int)+(l1.length:Int))))=true:=decide_eq_true c3;clear c3
   as_aux_lemma=>
    obtain rfl:=Option.some.inj H;go_enter Try.func6,Try.ntmps6;go_wp2
    go_ret
    exact ⟨by first|rfl|(simp [errW_none,errW_some] <;> rfl)|(simp [*,errW_none,errW_some] <;> rfl),by repeat (first|(with_reducible first|exact HB.out|apply Qc|apply Qa|apply Qb)|exact HB.out)⟩
  ·rw [if_neg c3] at H;have c3b0:decide (1048576<(wrap64 ((l0.length:Int)+(l1.length:Int))))=false:=decide_eq_false c3;clear c3;replace H:=Option.bind_eq_some_iff.mp H;obtain ⟨⟨t101,t102⟩,A40,H⟩:=H;replace H:((impl_RingsOf.f k t101 t102).bind fun bt107=>((spec_RingsOf.f k t101 t102).bind fun bt110=>(if (bt107.2.2 != bt110.2.2)=true then (laws_FnRings.j0 k l1 t101 t102 bt107.1 bt107.2.1 bt107.2.2 true) else (if bt107.1=bt110.1 then (laws_FnRings.j0 k l1 t101 t102 bt107.1 bt107.2.1 bt107.2.2 (bt107.2.1 != bt110.2.1)) else (laws_FnRings.j0 k l1 t101 t102 bt107.1 bt107.2.1 bt107.2.2 true)))))=some r:=H;have A4:=aM A40;clear A40;replace H:=Option.bind_eq_some_iff.mp H;obtain ⟨⟨t107,t108,t109⟩,A50,H⟩:=H;replace H:((spec_RingsOf.f k t101 t102).bind fun bt110=>(if (t109 != bt110.2.2)=true then (laws_FnRings.j0 k l1 t101 t102 t107 t108 t109 true) else (if t107=bt110.1 then (laws_FnRings.j0 k l1 t101 t102 t107 t108 t109 (t108 != bt110.2.1)) else (laws_FnRings.j0 k l1 t101 t102 t107 t108 t109 true))))=some r:=H;have A5:=aM A50;clear A50;replace H:=Option.bind_eq_some_iff.mp H;obtain ⟨⟨t110,t111,t112⟩,A60,H⟩:=H;replace H:(if (t109 != t112)=true then (laws_FnRings.j0 k l1 t101 t102 t107 t108 t109 true) else (if t107=t110 then (laws_FnRings.j0 k l1 t101 t102 t107 t108 t109 (t108 != t111)) else (laws_FnRings.j0 k l1 t101 t102 t107 t108 t109 true)))=some r:=H;have A6:=aM A60;clear A60;have HC7:=aM H;clear H;go_enter Try.func6,Try.ntmps6
   go_upto_region 6 with (first|((with_reducible refine Qh (f:=50) rfl ?_);refine goesL_ (some 33) rfl rfl Try.func50 (by kernel_rfl) rfl #[.slice A0 l0.length c0] rfl (by (try simp only [aD,aE,aF]);first|done|rfl|(simp only [aG,aH];rfl)) ?_;(with_reducible refine (spec_DrawRingsOf.calls k _ _ l0 t101 t102 _ ?side1 ?side2 A4.out).mono ?_);(case side1=>repeat (first|exact HR0.out|(with_reducible refine Kd.C_alloc ?_ _)|(with_reducible refine Kd.C_drewN ?_ _)|(with_reducible refine Kd.C_drew ?_)));(case side2=>exact HC0.out);rintro e w8 ⟨v103,v105,rfl,ho0,ho1,hb⟩;refine ⟨_,rfl,?_⟩;have n0_:=aM (Kd.R_lower ho0 (below_size (by repeat (first|(with_reducible first|exact HB.out|apply Qc|apply Qa|apply Qb)|exact HB.out))));have n1_:=aM (Kd.R_lower ho1 (below_size (by repeat (first|(with_reducible first|exact HB.out|apply Qc|apply Qa|apply Qb)|exact HB.out))));have n2_:=aM (below_step (by repeat (first|(with_reducible first|exact HB.out|apply Qc|apply Qa|apply Qb)|exact HB.out)) hb);clear HB;have HO104:=n0_;have HO106:=n1_;have HB:=n2_;clear n0_ n1_ n2_;(try clear hb);(try clear hb2);(try clear hk);(try clear hi);(try clear ho0);(try clear ho1);obtain ⟨Ao9,co9,eo9⟩:=Kd.R_slice HO104.out;subst eo9;obtain ⟨Ao10,co10,eo10⟩:=Kd.R_slice HO106.out;subst eo10)|((with_reducible refine Qh (f:=51) rfl ?_);refine goesL_ (some 39) rfl rfl Try.func51 (by kernel_rfl) rfl #[.slice Ao9 t101.length co9,.slice Ao10 t102.length co10] rfl (by (try simp only [aD,aE,aF]);first|done|rfl|(simp only [aG,aH];rfl)) ?_;(with_reducible refine (impl_RingsOf.calls k _ _ t101 _ _ t102 t107 t108 t109 _ ?side1 ?side2 ?side3 ?side4 A5.out).mono ?_);(case side1=>repeat (first|exact (Kd.Qf HO104.out).2.2|(with_reducible refine Kd.C_alloc ?_ _)|(with_reducible refine Kd.C_drewN ?_ _)|(with_reducible refine Kd.C_drew ?_)));(case side2=>exact (Kd.Qf HO104.out).2.1);(case side3=>repeat (first|exact (Kd.Qf HO106.out).2.2|(with_reducible refine Kd.C_alloc ?_ _)|(with_reducible refine Kd.C_drewN ?_ _)|(with_reducible refine Kd.C_drew ?_)));(case side4=>exact (Kd.Qf HO106.out).2.1);rintro e w11 ⟨rfl,hb⟩;refine ⟨_,rfl,?_⟩;have n0_:=aM (Kd.R_below (by (with_reducible repeat (first|apply Kd.Qe|apply Kd.Qd|apply Kd.R_drew));exact HO104.out) hb);have n1_:=aM (Kd.R_below (by (with_reducible repeat (first|apply Kd.Qe|apply Kd.Qd|apply Kd.R_drew));exact HO106.out) hb);have n2_:=aM (below_step (by repeat (first|(with_reducible first|exact HB.out|apply Qc|apply Qa|apply Qb)|exact HB.out)) hb);clear HO104;clear HO106;clear HB;have HO104:=n0_;have HO106:=n1_;have HB:=n2_;clear n0_ n1_ n2_;(try clear hb);(try clear hb2);(try clear hk);(try clear hi))|((with_reducible refine Qh (f:=52) rfl ?_);refine goesL_ (some 46) rfl rfl Try.func52 (by kernel_rfl) rfl #[.slice Ao9 t101.length co9,.slice Ao10 t102.length co10] rfl (by (try simp only [aD,aE,aF]);first|done|rfl|(simp only [aG,aH];rfl)) ?_;(with_reducible refine (spec_RingsOf.calls k _ _ t101 _ _ t102 t110 t111 t112 _ ?side1 ?side2 ?side3 ?side4 A6.out).mono ?_);(case side1=>repeat (first|exact (Kd.Qf HO104.out).2.2|(with_reducible refine Kd.C_alloc ?_ _)|(with_reducible refine Kd.C_drewN ?_ _)|(with_reducible refine Kd.C_drew ?_)));(case side2=>exact (Kd.Qf HO104.out).2.1);(case side3=>repeat (first|exact (Kd.Qf HO106.out).2.2|(with_reducible refine Kd.C_alloc ?_ _)|(with_reducible refine Kd.C_drewN ?_ _)|(with_reducible refine Kd.C_drew ?_)));(case side4=>exact (Kd.Qf HO106.out).2.1);rintro e w12 ⟨rfl,hb⟩;refine ⟨_,rfl,?_⟩;have n0_:=aM (Kd.R_below (by (with_reducible repeat (first|apply Kd.Qe|apply Kd.Qd|apply Kd.R_drew));exact HO104.out) hb);have n1_:=aM (Kd.R_below (by (with_reducible repeat (first|apply Kd.Qe|apply Kd.Qd|apply Kd.R_drew));exact HO106.out) hb);have n2_:=aM (below_step (by repeat (first|(with_reducible first|exact HB.out|apply Qc|apply Qa|apply Qb)|exact HB.out)) hb);clear HO104;clear HO106;clear HB;have HO104:=n0_;have HO106:=n1_;have HB:=n2_;clear n0_ n1_ n2_;(try clear hb);(try clear hb2);(try clear hk);(try clear hi)))
   (try simp only [Act.put,aA,aB,aC])
   go_cut [62] (fun v62 wc=>∃ (kq:Nat) (x62_6:Bool),v62= .bool x62_6∧Aside0 (laws_FnRings.j0 kq l1 t101 t102 t107 t108 t109 x62_6=some r)∧Aside0 (kq≤k)∧Aside0 (Kd.R (Kd.int .i64) 3 wc w.heap.size (fun k_=>some k_≠((.slice Ao10 t102.length co10):Value).ownBlock) (.slice Ao9 t101.length co9) t101)∧Aside0 (Kd.R (Kd.int .i64) 3 wc w.heap.size (fun k_=>some k_≠((.slice Ao9 t101.length co9):Value).ownBlock) (.slice Ao10 t102.length co10) t102)∧Aside0 (Below w.heap.size w wc))
   case first=>
    have H:=HC7.out;clear HC7;by_cases c13:(t109 != t112)=true
    ·rw [if_pos c13] at H;have c13b0:(t109 != t112)=true:=c13;(try (have c13b1:decide (t109=t112)=false:=by simpa using c13));(try (have c13b2:(t109 == t112)=false:=by simpa using c13));(try (have c13b3: ¬ (t109=t112):=by simpa using c13));clear c13
     (first|rw [c13b0]|(simp only [i64_w,i32_w];rw [c13b0])|skip)
     as_aux_lemma=>
      have H':=aM H;clear H;go_wp2
      go_meet
      case rel=>exact ⟨_,(true),(by first|rfl|(simp;done)|(simp [*];done)),H',⟨by first|omega|exact Nat.le_refl _⟩,⟨by (with_reducible repeat (first|apply Kd.Qe|apply Kd.Qd|apply Kd.R_drew));exact HO104.out⟩,⟨by (with_reducible repeat (first|apply Kd.Qe|apply Kd.Qd|apply Kd.R_drew));exact HO106.out⟩,⟨by repeat (first|(with_reducible first|exact HB.out|apply Qc|apply Qa|apply Qb)|exact HB.out)⟩⟩
    ·rw [if_neg c13] at H;have c13b0:(t109 != t112)=false:=by simpa using c13
     (try (have c13b1:decide (t109=t112)=true:=by simpa using c13));(try (have c13b2:(t109 == t112)=true:=by simpa using c13));clear c13
     (first|rw [c13b0]|(simp only [i64_w,i32_w];rw [c13b0])|skip)
     by_cases c14:t107=t110
     ·rw [if_pos c14] at H;have c14b0:(t107 == t110)=true:=beq_iff_eq.mpr c14;have c14b1:(t107 != t110)=false:=bne_eq_false_iff_eq.mpr c14;clear c14
      as_aux_lemma=>
       have H':=aM H;clear H;go_wp2
       go_meet
       case rel=>exact ⟨_,((t108 != t111)),(by first|rfl|(simp;done)|(simp [*];done)),H',⟨by first|omega|exact Nat.le_refl _⟩,⟨by (with_reducible repeat (first|apply Kd.Qe|apply Kd.Qd|apply Kd.R_drew));exact HO104.out⟩,⟨by (with_reducible repeat (first|apply Kd.Qe|apply Kd.Qd|apply Kd.R_drew));exact HO106.out⟩,⟨by repeat (first|(with_reducible first|exact HB.out|apply Qc|apply Qa|apply Qb)|exact HB.out)⟩⟩
     ·rw [if_neg c14] at H;have c14b0:(t107 == t110)=false:=beq_eq_false_iff_ne.mpr c14;have c14b1:(t107 != t110)=true:=bne_iff_ne.mpr c14
      as_aux_lemma=>
       have H':=aM H;clear H;go_wp2
       go_meet
       case rel=>exact ⟨_,(true),(by first|rfl|(simp;done)|(simp [*];done)),H',⟨by first|omega|exact Nat.le_refl _⟩,⟨by (with_reducible repeat (first|apply Kd.Qe|apply Kd.Qd|apply Kd.R_drew));exact HO104.out⟩,⟨by (with_reducible repeat (first|apply Kd.Qe|apply Kd.Qd|apply Kd.R_drew));exact HO106.out⟩,⟨by repeat (first|(with_reducible first|exact HB.out|apply Qc|apply Qa|apply Qb)|exact HB.out)⟩⟩
   case rest=>
    clear HC7;(try clear c1);(try clear p2);(try clear c3);(try clear c3b0);(try clear c5);(try clear c6);(try clear p6);(try clear c13);(try clear c13b0);(try clear c13b1);(try clear c13b2);(try clear c14);(try clear c14b0);(try clear c14b1);obtain ⟨kq,x62_6,rfl,HA,HJ6,HO_5,HO_6,HB⟩:=hcut
    cases kq with
    |zero=>exact absurd HA.out (by simp [laws_FnRings.j0])
    |succ kj6=>
     have H:=HA.out;clear HA;simp only [laws_FnRings.j0] at H;by_cases c15:x62_6=true
     ·subst c15;have H1:(some false)=some r:=by rw [if_pos rfl] at H;exact H
      clear H;have H:=H1;clear H1
      as_aux_lemma=>
       obtain rfl:=Option.some.inj H;go_wp2
       go_ret
       exact ⟨by first|rfl|(simp [errW_none,errW_some] <;> rfl)|(simp [*,errW_none,errW_some] <;> rfl),by repeat (first|(with_reducible first|exact HB.out|apply Qc|apply Qa|apply Qb)|exact HB.out)⟩
     ·replace c15:=Bool.eq_false_iff.mpr c15;subst c15;have H1:(if t109=true then ((impl_MovesNeeded.f kj6 t101 t102).bind fun bt113=>((impl_MovesNeeded.f kj6 t102 t101).bind fun bt115=>(if bt113.2=true then (if bt113.1=(wrap64 (t107+t108)) then (if bt115.2=true then (if bt115.1=bt113.1 then ((laws_sameInts.f kj6 t101 t102).bind fun t117=>(if ((bt113.1 == 0) != t117)=true then (laws_FnRings.j1 kj6 l1 t101 t102 bt113.1 true) else (laws_FnRings.j1 kj6 l1 t101 t102 bt113.1 (decide ((wrap64 (2 * t108)) > t107))))) else (laws_FnRings.j1 kj6 l1 t101 t102 bt113.1 true)) else (laws_FnRings.j1 kj6 l1 t101 t102 bt113.1 true)) else (laws_FnRings.j1 kj6 l1 t101 t102 bt113.1 true)) else (laws_FnRings.j1 kj6 l1 t101 t102 bt113.1 true)))) else (some true))=some r:=by rw [if_neg (show ¬ (false=true) by decide)] at H;exact H
      clear H;have H:=H1;clear H1;by_cases c16:t109=true
      ·subst c16;have H1:((impl_MovesNeeded.f kj6 t101 t102).bind fun bt113=>((impl_MovesNeeded.f kj6 t102 t101).bind fun bt115=>(if bt113.2=true then (if bt113.1=(wrap64 (t107+t108)) then (if bt115.2=true then (if bt115.1=bt113.1 then ((laws_sameInts.f kj6 t101 t102).bind fun t117=>(if ((bt113.1 == 0) != t117)=true then (laws_FnRings.j1 kj6 l1 t101 t102 bt113.1 true) else (laws_FnRings.j1 kj6 l1 t101 t102 bt113.1 (decide ((wrap64 (2 * t108)) > t107))))) else (laws_FnRings.j1 kj6 l1 t101 t102 bt113.1 true)) else (laws_FnRings.j1 kj6 l1 t101 t102 bt113.1 true)) else (laws_FnRings.j1 kj6 l1 t101 t102 bt113.1 true)) else (laws_FnRings.j1 kj6 l1 t101 t102 bt113.1 true))))=some r:=by rw [if_pos rfl] at H;exact H
       clear H;have H:=H1;clear H1;replace H:=Option.bind_eq_some_iff.mp H;obtain ⟨⟨t113,t114⟩,A170,H⟩:=H;replace H:((impl_MovesNeeded.f kj6 t102 t101).bind fun bt115=>(if t114=true then (if t113=(wrap64 (t107+t108)) then (if bt115.2=true then (if bt115.1=t113 then ((laws_sameInts.f kj6 t101 t102).bind fun t117=>(if ((t113 == 0) != t117)=true then (laws_FnRings.j1 kj6 l1 t101 t102 t113 true) else (laws_FnRings.j1 kj6 l1 t101 t102 t113 (decide ((wrap64 (2 * t108)) > t107))))) else (laws_FnRings.j1 kj6 l1 t101 t102 t113 true)) else (laws_FnRings.j1 kj6 l1 t101 t102 t113 true)) else (laws_FnRings.j1 kj6 l1 t101 t102 t113 true)) else (laws_FnRings.j1 kj6 l1 t101 t102 t113 true)))=some r:=H;have A17:=aM A170;clear A170;replace H:=Option.bind_eq_some_iff.mp H;obtain ⟨⟨t115,t116⟩,A180,H⟩:=H;replace H:(if t114=true then (if t113=(wrap64 (t107+t108)) then (if t116=true then (if t115=t113 then ((laws_sameInts.f kj6 t101 t102).bind fun t117=>(if ((t113 == 0) != t117)=true then (laws_FnRings.j1 kj6 l1 t101 t102 t113 true) else (laws_FnRings.j1 kj6 l1 t101 t102 t113 (decide ((wrap64 (2 * t108)) > t107))))) else (laws_FnRings.j1 kj6 l1 t101 t102 t113 true)) else (laws_FnRings.j1 kj6 l1 t101 t102 t113 true)) else (laws_FnRings.j1 kj6 l1 t101 t102 t113 true)) else (laws_FnRings.j1 kj6 l1 t101 t102 t113 true))=some r:=H;have A18:=aM A180;clear A180;have HC19:=aM H;clear H
       go_upto_region 11 with (first|((with_reducible refine Qh (f:=53) rfl ?_);refine goesL_ (some 67) rfl rfl Try.func53 (by kernel_rfl) rfl #[.slice Ao9 t101.length co9,.slice Ao10 t102.length co10] rfl (by (try simp only [aD,aE,aF]);first|done|rfl|(simp only [aG,aH];rfl)) ?_;(with_reducible refine (impl_MovesNeeded.calls kj6 _ _ t101 _ _ t102 t113 t114 _ ?side1 ?side2 ?side3 ?side4 A17.out).mono ?_);(case side1=>repeat (first|exact (Kd.Qf HO_5.out).2.2|(with_reducible refine Kd.C_alloc ?_ _)|(with_reducible refine Kd.C_drewN ?_ _)|(with_reducible refine Kd.C_drew ?_)));(case side2=>exact (Kd.Qf HO_5.out).2.1);(case side3=>repeat (first|exact (Kd.Qf HO_6.out).2.2|(with_reducible refine Kd.C_alloc ?_ _)|(with_reducible refine Kd.C_drewN ?_ _)|(with_reducible refine Kd.C_drew ?_)));(case side4=>exact (Kd.Qf HO_6.out).2.1);rintro e w20 ⟨rfl,hb⟩;refine ⟨_,rfl,?_⟩;have n0_:=aM (Kd.R_below (by (with_reducible repeat (first|apply Kd.Qe|apply Kd.Qd|apply Kd.R_drew));exact HO_5.out) hb);have n1_:=aM (Kd.R_below (by (with_reducible repeat (first|apply Kd.Qe|apply Kd.Qd|apply Kd.R_drew));exact HO_6.out) hb);have n2_:=aM (below_step (by repeat (first|(with_reducible first|exact HB.out|apply Qc|apply Qa|apply Qb)|exact HB.out)) hb);clear HO_5;clear HO_6;clear HB;have HO_5:=n0_;have HO_6:=n1_;have HB:=n2_;clear n0_ n1_ n2_;(try clear hb);(try clear hb2);(try clear hk);(try clear hi))|((with_reducible refine Qh (f:=53) rfl ?_);refine goesL_ (some 73) rfl rfl Try.func53 (by kernel_rfl) rfl #[.slice Ao10 t102.length co10,.slice Ao9 t101.length co9] rfl (by (try simp only [aD,aE,aF]);first|done|rfl|(simp only [aG,aH];rfl)) ?_;(with_reducible refine (impl_MovesNeeded.calls kj6 _ _ t102 _ _ t101 t115 t116 _ ?side1 ?side2 ?side3 ?side4 A18.out).mono ?_);(case side1=>repeat (first|exact (Kd.Qf HO_6.out).2.2|(with_reducible refine Kd.C_alloc ?_ _)|(with_reducible refine Kd.C_drewN ?_ _)|(with_reducible refine Kd.C_drew ?_)));(case side2=>exact (Kd.Qf HO_6.out).2.1);(case side3=>repeat (first|exact (Kd.Qf HO_5.out).2.2|(with_reducible refine Kd.C_alloc ?_ _)|(with_reducible refine Kd.C_drewN ?_ _)|(with_reducible refine Kd.C_drew ?_)));(case side4=>exact (Kd.Qf HO_5.out).2.1);rintro e w21 ⟨rfl,hb⟩;refine ⟨_,rfl,?_⟩;have n0_:=aM (Kd.R_below (by (with_reducible repeat (first|apply Kd.Qe|apply Kd.Qd|apply Kd.R_drew));exact HO_5.out) hb);have n1_:=aM (Kd.R_below (by (with_reducible repeat (first|apply Kd.Qe|apply Kd.Qd|apply Kd.R_drew));exact HO_6.out) hb);have n2_:=aM (below_step (by repeat (first|(with_reducible first|exact HB.out|apply Qc|apply Qa|apply Qb)|exact HB.out)) hb);clear HO_5;clear HO_6;clear HB;have HO_5:=n0_;have HO_6:=n1_;have HB:=n2_;clear n0_ n1_ n2_;(try clear hb);(try clear hb2);(try clear hk);(try clear hi)))
       (try simp only [Act.put,aA,aB,aC])
       go_cut [107] (fun v107 wc=>∃ (kq:Nat) (x107_18:Bool),v107= .bool x107_18∧Aside0 (laws_FnRings.j1 kq l1 t101 t102 t113 x107_18=some r)∧Aside0 (kq≤kj6)∧Aside0 (Kd.R (Kd.int .i64) 3 wc w.heap.size (fun k_=>some k_≠((.slice Ao10 t102.length co10):Value).ownBlock) (.slice Ao9 t101.length co9) t101)∧Aside0 (Kd.R (Kd.int .i64) 3 wc w.heap.size (fun k_=>some k_≠((.slice Ao9 t101.length co9):Value).ownBlock) (.slice Ao10 t102.length co10) t102)∧Aside0 (Below w.heap.size w wc))
       case first=>
        have H:=HC19.out;clear HC19;by_cases c22:t114=true
        ·subst c22;have H1:(if t113=(wrap64 (t107+t108)) then (if t116=true then (if t115=t113 then ((laws_sameInts.f kj6 t101 t102).bind fun t117=>(if ((t113 == 0) != t117)=true then (laws_FnRings.j1 kj6 l1 t101 t102 t113 true) else (laws_FnRings.j1 kj6 l1 t101 t102 t113 (decide ((wrap64 (2 * t108)) > t107))))) else (laws_FnRings.j1 kj6 l1 t101 t102 t113 true)) else (laws_FnRings.j1 kj6 l1 t101 t102 t113 true)) else (laws_FnRings.j1 kj6 l1 t101 t102 t113 true))=some r:=by rw [if_pos rfl] at H;exact H
         clear H;have H:=H1;clear H1;by_cases c23:t113=(wrap64 (t107+t108))
         ·rw [if_pos c23] at H;have c23b0:(t113 == (wrap64 (t107+t108)))=true:=beq_iff_eq.mpr c23;have c23b1:(t113 != (wrap64 (t107+t108)))=false:=bne_eq_false_iff_eq.mpr c23;clear c23
          (first|rw [c23b0]|(simp only [i64_w,i32_w];rw [c23b0])|skip)
          by_cases c24:t116=true
          ·subst c24;have H1:(if t115=t113 then ((laws_sameInts.f kj6 t101 t102).bind fun t117=>(if ((t113 == 0) != t117)=true then (laws_FnRings.j1 kj6 l1 t101 t102 t113 true) else (laws_FnRings.j1 kj6 l1 t101 t102 t113 (decide ((wrap64 (2 * t108)) > t107))))) else (laws_FnRings.j1 kj6 l1 t101 t102 t113 true))=some r:=by rw [if_pos rfl] at H;exact H
           clear H;have H:=H1;clear H1;by_cases c25:t115=t113
           ·rw [if_pos c25] at H;have c25b0:(t115 == t113)=true:=beq_iff_eq.mpr c25;have c25b1:(t115 != t113)=false:=bne_eq_false_iff_eq.mpr c25;clear c25;replace H:=Option.bind_eq_some_iff.mp H;obtain ⟨t117,A260,H⟩:=H;replace H:(if ((t113 == 0) != t117)=true then (laws_FnRings.j1 kj6 l1 t101 t102 t113 true) else (laws_FnRings.j1 kj6 l1 t101 t102 t113 (decide ((wrap64 (2 * t108)) > t107))))=some r:=H;have A26:=aM A260;clear A260;by_cases c27:((t113 == 0) != t117)=true
            ·rw [if_pos c27] at H;have c27b0:((t113 == 0) != t117)=true:=c27;(try (have c27b1:decide ((t113 == 0)=t117)=false:=by simpa using c27));(try (have c27b2:((t113 == 0) == t117)=false:=by simpa using c27));(try (have c27b3: ¬ ((t113 == 0)=t117):=by simpa using c27));clear c27
             as_aux_lemma=>
              have H':=aM H;clear H;go_wp2_with (first|(go_at_call 28;(with_reducible refine (laws_sameInts.calls kj6 _ _ t101 _ _ t102 t117 _ ?side1 ?side2 ?side3 ?side4 A26.out).mono ?_);(case side1=>repeat (first|exact (Kd.Qf HO_5.out).2.2|(with_reducible refine Kd.C_alloc ?_ _)|(with_reducible refine Kd.C_drewN ?_ _)|(with_reducible refine Kd.C_drew ?_)));(case side2=>exact (Kd.Qf HO_5.out).2.1);(case side3=>repeat (first|exact (Kd.Qf HO_6.out).2.2|(with_reducible refine Kd.C_alloc ?_ _)|(with_reducible refine Kd.C_drewN ?_ _)|(with_reducible refine Kd.C_drew ?_)));(case side4=>exact (Kd.Qf HO_6.out).2.1);rintro e w' ⟨rfl,⟨nd,rfl⟩⟩))
              go_meet
              case rel=>exact ⟨_,(true),(by first|rfl|(simp;done)|(simp [*];done)),H',⟨by have:=HJ6.out;first|omega|exact Nat.le_refl _⟩,⟨by (with_reducible repeat (first|apply Kd.Qe|apply Kd.Qd|apply Kd.R_drew));exact HO_5.out⟩,⟨by (with_reducible repeat (first|apply Kd.Qe|apply Kd.Qd|apply Kd.R_drew));exact HO_6.out⟩,⟨by repeat (first|(with_reducible first|exact HB.out|apply Qc|apply Qa|apply Qb)|exact HB.out)⟩⟩
            ·rw [if_neg c27] at H;have c27b0:((t113 == 0) != t117)=false:=by simpa using c27
             (try (have c27b1:decide ((t113 == 0)=t117)=true:=by simpa using c27));(try (have c27b2:((t113 == 0) == t117)=true:=by simpa using c27));clear c27
             as_aux_lemma=>
              have H':=aM H;clear H;go_wp2_with (first|(go_at_call 28;(with_reducible refine (laws_sameInts.calls kj6 _ _ t101 _ _ t102 t117 _ ?side1 ?side2 ?side3 ?side4 A26.out).mono ?_);(case side1=>repeat (first|exact (Kd.Qf HO_5.out).2.2|(with_reducible refine Kd.C_alloc ?_ _)|(with_reducible refine Kd.C_drewN ?_ _)|(with_reducible refine Kd.C_drew ?_)));(case side2=>exact (Kd.Qf HO_5.out).2.1);(case side3=>repeat (first|exact (Kd.Qf HO_6.out).2.2|(with_reducible refine Kd.C_alloc ?_ _)|(with_reducible refine Kd.C_drewN ?_ _)|(with_reducible refine Kd.C_drew ?_)));(case side4=>exact (Kd.Qf HO_6.out).2.1);rintro e w' ⟨rfl,⟨nd,rfl⟩⟩))
              go_meet
              case rel=>exact ⟨_,(decide ((wrap64 (2 * t108)) > t107)),(by first|rfl|(simp;done)|(simp [*];done)),H',⟨by have:=HJ6.out;first|omega|exact Nat.le_refl _⟩,⟨by (with_reducible repeat (first|apply Kd.Qe|apply Kd.Qd|apply Kd.R_drew));exact HO_5.out⟩,⟨by (with_reducible repeat (first|apply Kd.Qe|apply Kd.Qd|apply Kd.R_drew));exact HO_6.out⟩,⟨by repeat (first|(with_reducible first|exact HB.out|apply Qc|apply Qa|apply Qb)|exact HB.out)⟩⟩
           ·rw [if_neg c25] at H;have c25b0:(t115 == t113)=false:=beq_eq_false_iff_ne.mpr c25;have c25b1:(t115 != t113)=true:=bne_iff_ne.mpr c25
            as_aux_lemma=>
             have H':=aM H;clear H;go_wp2
             go_meet
             case rel=>exact ⟨_,(true),(by first|rfl|(simp;done)|(simp [*];done)),H',⟨by have:=HJ6.out;first|omega|exact Nat.le_refl _⟩,⟨by (with_reducible repeat (first|apply Kd.Qe|apply Kd.Qd|apply Kd.R_drew));exact HO_5.out⟩,⟨by (with_reducible repeat (first|apply Kd.Qe|apply Kd.Qd|apply Kd.R_drew));exact HO_6.out⟩,⟨by repeat (first|(with_reducible first|exact HB.out|apply Qc|apply Qa|apply Qb)|exact HB.out)⟩⟩
          ·replace c24:=Bool.eq_false_iff.mpr c24;subst c24;have H1:(laws_FnRings.j1 kj6 l1 t101 t102 t113 true)=some r:=by rw [if_neg (show ¬ (false=true) by decide)] at H;exact H
           clear H;have H:=H1;clear H1
           as_aux_lemma=>
            have H':=aM H;clear H;go_wp2
            go_meet
            case rel=>exact ⟨_,(true),(by first|rfl|(simp;done)|(simp [*];done)),H',⟨by have:=HJ6.out;first|omega|exact Nat.le_refl _⟩,⟨by (with_reducible repeat (first|apply Kd.Qe|apply Kd.Qd|apply Kd.R_drew));exact HO_5.out⟩,⟨by (with_reducible repeat (first|apply Kd.Qe|apply Kd.Qd|apply Kd.R_drew));exact HO_6.out⟩,⟨by repeat (first|(with_reducible first|exact HB.out|apply Qc|apply Qa|apply Qb)|exact HB.out)⟩⟩
         ·rw [if_neg c23] at H;have c23b0:(t113 == (wrap64 (t107+t108)))=false:=beq_eq_false_iff_ne.mpr c23;have c23b1:(t113 != (wrap64 (t107+t108)))=true:=bne_iff_ne.mpr c23
          (first|rw [c23b0]|(simp only [i64_w,i32_w];rw [c23b0])|skip)
          as_aux_lemma=>
           have H':=aM H;clear H;go_wp2
           go_meet
           case rel=>exact ⟨_,(true),(by first|rfl|(simp;done)|(simp [*];done)),H',⟨by have:=HJ6.out;first|omega|exact Nat.le_refl _⟩,⟨by (with_reducible repeat (first|apply Kd.Qe|apply Kd.Qd|apply Kd.R_drew));exact HO_5.out⟩,⟨by (with_reducible repeat (first|apply Kd.Qe|apply Kd.Qd|apply Kd.R_drew));exact HO_6.out⟩,⟨by repeat (first|(with_reducible first|exact HB.out|apply Qc|apply Qa|apply Qb)|exact HB.out)⟩⟩
        ·replace c22:=Bool.eq_false_iff.mpr c22;subst c22;have H1:(laws_FnRings.j1 kj6 l1 t101 t102 t113 true)=some r:=by rw [if_neg (show ¬ (false=true) by decide)] at H;exact H
         clear H;have H:=H1;clear H1
         as_aux_lemma=>
          have H':=aM H;clear H;go_wp2
          go_meet
          case rel=>exact ⟨_,(true),(by first|rfl|(simp;done)|(simp [*];done)),H',⟨by have:=HJ6.out;first|omega|exact Nat.le_refl _⟩,⟨by (with_reducible repeat (first|apply Kd.Qe|apply Kd.Qd|apply Kd.R_drew));exact HO_5.out⟩,⟨by (with_reducible repeat (first|apply Kd.Qe|apply Kd.Qd|apply Kd.R_drew));exact HO_6.out⟩,⟨by repeat (first|(with_reducible first|exact HB.out|apply Qc|apply Qa|apply Qb)|exact HB.out)⟩⟩
       case rest=>
        clear HC19;(try clear c1);(try clear c2);(try clear p2);(try clear c3);(try clear c3b0);(try clear c5);(try clear c6);(try clear p6);(try clear c13);(try clear c13b0);(try clear c13b1);(try clear c13b2);(try clear c14);(try clear c14b0);(try clear c14b1);(try clear c15);(try clear c16);(try clear c22);(try clear c23);(try clear c23b0);(try clear c23b1);(try clear c24);(try clear c25);(try clear c25b0);(try clear c25b1);(try clear c27);(try clear c27b0);(try clear c27b1);(try clear c27b2);(try clear p2);(try clear p6);obtain ⟨kq,x107_18,rfl,HA,HJ18,HO_5,HO_6,HB⟩:=hcut
        cases kq with
        |zero=>exact absurd HA.out (by simp [laws_FnRings.j1])
        |succ kj18=>
         have H:=HA.out;clear HA;simp only [laws_FnRings.j1] at H;by_cases c28:x107_18=true
         ·subst c28;have H1:(some false)=some r:=by rw [if_pos rfl] at H;exact H
          clear H;have H:=H1;clear H1
          as_aux_lemma=>
           obtain rfl:=Option.some.inj H;go_wp2
           go_ret
           exact ⟨by first|rfl|(simp [errW_none,errW_some] <;> rfl)|(simp [*,errW_none,errW_some] <;> rfl),by repeat (first|(with_reducible first|exact HB.out|apply Qc|apply Qa|apply Qb)|exact HB.out)⟩
         ·replace c28:=Bool.eq_false_iff.mpr c28;subst c28;have H1:((some (([]:List Int):List Int)).bind fun y118=>(if y118.length+t101.length<17592186044416 then ((some (y118 ++ t101:List Int)).bind fun y121=>((laws_numberOf.f kj18 l1).bind fun t124=>(if (y121.length:Int)=0 then (none) else ((laws_numberOf.f kj18 l1).bind fun t125=>(if 0≤(Int.tmod t124 (y121.length:Int)) then (if (Int.tmod t124 (y121.length:Int))<(y121.length:Int) then (if 0≤(Int.tmod (wrap64 (Int.tdiv t125 11)) (y121.length:Int)) then (if (Int.tmod (wrap64 (Int.tdiv t125 11)) (y121.length:Int))<(y121.length:Int) then ((some ((y121.set ((Int.tmod t124 (y121.length:Int)):Int).toNat (rd y121 (Int.tmod (wrap64 (Int.tdiv t125 11)) (y121.length:Int)))).set ((Int.tmod (wrap64 (Int.tdiv t125 11)) (y121.length:Int)):Int).toNat (rd y121 (Int.tmod t124 (y121.length:Int))):List Int)).bind fun y129=>((impl_MovesNeeded.f kj18 t101 y129).bind fun bt130=>((impl_MovesNeeded.f kj18 y129 t102).bind fun bt132=>(if bt130.2=true then (if bt132.2=true then (if t113 > (wrap64 (bt130.1+bt132.1)) then (some false) else (some true)) else (some false)) else (some false))))) else (none)) else (none)) else (none)) else (none)))))) else (none)))=some r:=by rw [if_neg (show ¬ (false=true) by decide)] at H;exact H
          clear H;have H:=H1;clear H1;obtain ⟨y118,hy118⟩:∃ y_:List Int,y_=(([]:List Int)):=⟨_,rfl⟩;replace H:(if y118.length+t101.length<17592186044416 then ((some (y118 ++ t101:List Int)).bind fun y121=>((laws_numberOf.f kj18 l1).bind fun t124=>(if (y121.length:Int)=0 then (none) else ((laws_numberOf.f kj18 l1).bind fun t125=>(if 0≤(Int.tmod t124 (y121.length:Int)) then (if (Int.tmod t124 (y121.length:Int))<(y121.length:Int) then (if 0≤(Int.tmod (wrap64 (Int.tdiv t125 11)) (y121.length:Int)) then (if (Int.tmod (wrap64 (Int.tdiv t125 11)) (y121.length:Int))<(y121.length:Int) then ((some ((y121.set ((Int.tmod t124 (y121.length:Int)):Int).toNat (rd y121 (Int.tmod (wrap64 (Int.tdiv t125 11)) (y121.length:Int)))).set ((Int.tmod (wrap64 (Int.tdiv t125 11)) (y121.length:Int)):Int).toNat (rd y121 (Int.tmod t124 (y121.length:Int))):List Int)).bind fun y129=>((impl_MovesNeeded.f kj18 t101 y129).bind fun bt130=>((impl_MovesNeeded.f kj18 y129 t102).bind fun bt132=>(if bt130.2=true then (if bt132.2=true then (if t113 > (wrap64 (bt130.1+bt132.1)) then (some false) else (some true)) else (some false)) else (some false))))) else (none)) else (none)) else (none)) else (none)))))) else (none))=some r:=by first|(rw [hy118];with_reducible exact H)|(have H2_:=(Option.bind_some _ _).symm.trans H;rw [hy118];with_reducible exact H2_)|(have H2_:=(Option.bind_some _ _).symm.trans H;with_reducible exact H2_)|with_reducible exact H|(rw [hy118];exact H)|exact H
          have Ny118:=aM hy118;clear hy118;by_cases c29:y118.length+t101.length<17592186044416
          ·rw [if_pos c29] at H;have LMc29:=aM c29;clear c29;obtain ⟨y121,hy121⟩:∃ y_:List Int,y_=(y118 ++ t101):=⟨_,rfl⟩;replace H:((laws_numberOf.f kj18 l1).bind fun t124=>(if (y121.length:Int)=0 then (none) else ((laws_numberOf.f kj18 l1).bind fun t125=>(if 0≤(Int.tmod t124 (y121.length:Int)) then (if (Int.tmod t124 (y121.length:Int))<(y121.length:Int) then (if 0≤(Int.tmod (wrap64 (Int.tdiv t125 11)) (y121.length:Int)) then (if (Int.tmod (wrap64 (Int.tdiv t125 11)) (y121.length:Int))<(y121.length:Int) then ((some ((y121.set ((Int.tmod t124 (y121.length:Int)):Int).toNat (rd y121 (Int.tmod (wrap64 (Int.tdiv t125 11)) (y121.length:Int)))).set ((Int.tmod (wrap64 (Int.tdiv t125 11)) (y121.length:Int)):Int).toNat (rd y121 (Int.tmod t124 (y121.length:Int))):List Int)).bind fun y129=>((impl_MovesNeeded.f kj18 t101 y129).bind fun bt130=>((impl_MovesNeeded.f kj18 y129 t102).bind fun bt132=>(if bt130.2=true then (if bt132.2=true then (if t113 > (wrap64 (bt130.1+bt132.1)) then (some false) else (some true)) else (some false)) else (some false))))) else (none)) else (none)) else (none)) else (none)))))=some r:=by first|(rw [hy121];with_reducible exact H)|(have H2_:=(Option.bind_some _ _).symm.trans H;rw [hy121];with_reducible exact H2_)|(have H2_:=(Option.bind_some _ _).symm.trans H;with_reducible exact H2_)|with_reducible exact H|(rw [hy121];exact H)|exact H
           have Ny121:=aM hy121;clear hy121;replace H:=Option.bind_eq_some_iff.mp H;obtain ⟨t124,A300,H⟩:=H;replace H:(if (y121.length:Int)=0 then (none) else ((laws_numberOf.f kj18 l1).bind fun t125=>(if 0≤(Int.tmod t124 (y121.length:Int)) then (if (Int.tmod t124 (y121.length:Int))<(y121.length:Int) then (if 0≤(Int.tmod (wrap64 (Int.tdiv t125 11)) (y121.length:Int)) then (if (Int.tmod (wrap64 (Int.tdiv t125 11)) (y121.length:Int))<(y121.length:Int) then ((some ((y121.set ((Int.tmod t124 (y121.length:Int)):Int).toNat (rd y121 (Int.tmod (wrap64 (Int.tdiv t125 11)) (y121.length:Int)))).set ((Int.tmod (wrap64 (Int.tdiv t125 11)) (y121.length:Int)):Int).toNat (rd y121 (Int.tmod t124 (y121.length:Int))):List Int)).bind fun y129=>((impl_MovesNeeded.f kj18 t101 y129).bind fun bt130=>((impl_MovesNeeded.f kj18 y129 t102).bind fun bt132=>(if bt130.2=true then (if bt132.2=true then (if t113 > (wrap64 (bt130.1+bt132.1)) then (some false) else (some true)) else (some false)) else (some false))))) else (none)) else (none)) else (none)) else (none))))=some r:=H;have A30:=aM A300;clear A300;by_cases c31:(y121.length:Int)=0
           ·rw [if_pos c31] at H;exact absurd H (by simp)
           ·rw [if_neg c31] at H;have c31b0:((y121.length:Int) == 0)=false:=beq_eq_false_iff_ne.mpr c31;have c31b1:((y121.length:Int) != 0)=true:=bne_iff_ne.mpr c31;have c31b2: ¬ (y121=[]):=fun h_=>c31 (by rw [h_];rfl)
            replace H:=Option.bind_eq_some_iff.mp H;obtain ⟨t125,A320,H⟩:=H;replace H:(if 0≤(Int.tmod t124 (y121.length:Int)) then (if (Int.tmod t124 (y121.length:Int))<(y121.length:Int) then (if 0≤(Int.tmod (wrap64 (Int.tdiv t125 11)) (y121.length:Int)) then (if (Int.tmod (wrap64 (Int.tdiv t125 11)) (y121.length:Int))<(y121.length:Int) then ((some ((y121.set ((Int.tmod t124 (y121.length:Int)):Int).toNat (rd y121 (Int.tmod (wrap64 (Int.tdiv t125 11)) (y121.length:Int)))).set ((Int.tmod (wrap64 (Int.tdiv t125 11)) (y121.length:Int)):Int).toNat (rd y121 (Int.tmod t124 (y121.length:Int))):List Int)).bind fun y129=>((impl_MovesNeeded.f kj18 t101 y129).bind fun bt130=>((impl_MovesNeeded.f kj18 y129 t102).bind fun bt132=>(if bt130.2=true then (if bt132.2=true then (if t113 > (wrap64 (bt130.1+bt132.1)) then (some false) else (some true)) else (some false)) else (some false))))) else (none)) else (none)) else (none)) else (none))=some r:=H;have A32:=aM A320;clear A320;obtain ⟨ji33,hji33⟩:∃ j_:Int,(Int.tmod t124 (y121.length:Int))=j_:=⟨_,rfl⟩;replace H:(if 0≤(ji33) then (if (ji33)<(y121.length:Int) then (if 0≤(Int.tmod (wrap64 (Int.tdiv t125 11)) (y121.length:Int)) then (if (Int.tmod (wrap64 (Int.tdiv t125 11)) (y121.length:Int))<(y121.length:Int) then ((some ((y121.set ((ji33):Int).toNat (rd y121 (Int.tmod (wrap64 (Int.tdiv t125 11)) (y121.length:Int)))).set ((Int.tmod (wrap64 (Int.tdiv t125 11)) (y121.length:Int)):Int).toNat (rd y121 (ji33)):List Int)).bind fun y129=>((impl_MovesNeeded.f kj18 t101 y129).bind fun bt130=>((impl_MovesNeeded.f kj18 y129 t102).bind fun bt132=>(if bt130.2=true then (if bt132.2=true then (if t113 > (wrap64 (bt130.1+bt132.1)) then (some false) else (some true)) else (some false)) else (some false))))) else (none)) else (none)) else (none)) else (none))=some r:=by first|(rw [hji33] at H;exact H)|(simp only [hji33] at H ⊢;exact H)
            (try rw [hji33] at A30);(try rw [hji33] at A32);by_cases c34:0≤(ji33)
            ·rw [if_pos c34] at H;have c34b0:decide (0≤(ji33))=true:=decide_eq_true c34;clear c34;by_cases c35:(ji33)<(y121.length:Int)
             ·rw [if_pos c35] at H;have c35b0:decide ((ji33)<(y121.length:Int))=true:=decide_eq_true c35;clear c35;obtain ⟨ji36,hji36⟩:∃ j_:Int,(Int.tmod (wrap64 (Int.tdiv t125 11)) (y121.length:Int))=j_:=⟨_,rfl⟩;replace H:(if 0≤(ji36) then (if (ji36)<(y121.length:Int) then ((some ((y121.set ((ji33):Int).toNat (rd y121 (ji36))).set ((ji36):Int).toNat (rd y121 (ji33)):List Int)).bind fun y129=>((impl_MovesNeeded.f kj18 t101 y129).bind fun bt130=>((impl_MovesNeeded.f kj18 y129 t102).bind fun bt132=>(if bt130.2=true then (if bt132.2=true then (if t113 > (wrap64 (bt130.1+bt132.1)) then (some false) else (some true)) else (some false)) else (some false))))) else (none)) else (none))=some r:=by first|(rw [hji36] at H;exact H)|(simp only [hji36] at H ⊢;exact H)
              (try rw [hji36] at A30);(try rw [hji36] at A32);by_cases c37:0≤(ji36)
              ·rw [if_pos c37] at H;have c37b0:decide (0≤(ji36))=true:=decide_eq_true c37;clear c37;by_cases c38:(ji36)<(y121.length:Int)
               ·rw [if_pos c38] at H;have c38b0:decide ((ji36)<(y121.length:Int))=true:=decide_eq_true c38;clear c38;obtain ⟨y128,hy128⟩:∃ y_:List Int,y_=(y121.set ((ji33):Int).toNat (rd y121 (ji36))):=⟨_,rfl⟩;replace H:((some (y128.set ((ji36):Int).toNat (rd y121 (ji33)):List Int)).bind fun y129=>((impl_MovesNeeded.f kj18 t101 y129).bind fun bt130=>((impl_MovesNeeded.f kj18 y129 t102).bind fun bt132=>(if bt130.2=true then (if bt132.2=true then (if t113 > (wrap64 (bt130.1+bt132.1)) then (some false) else (some true)) else (some false)) else (some false)))))=some r:=by first|(rw [hy128];with_reducible exact H)|(have H2_:=(Option.bind_some _ _).symm.trans H;rw [hy128];with_reducible exact H2_)|(have H2_:=(Option.bind_some _ _).symm.trans H;with_reducible exact H2_)|with_reducible exact H|(rw [hy128];exact H)|exact H
                have Ny128:=aM hy128;clear hy128;obtain ⟨y129,hy129⟩:∃ y_:List Int,y_=(y128.set ((ji36):Int).toNat (rd y121 (ji33))):=⟨_,rfl⟩;replace H:((impl_MovesNeeded.f kj18 t101 y129).bind fun bt130=>((impl_MovesNeeded.f kj18 y129 t102).bind fun bt132=>(if bt130.2=true then (if bt132.2=true then (if t113 > (wrap64 (bt130.1+bt132.1)) then (some false) else (some true)) else (some false)) else (some false))))=some r:=by first|(rw [hy129];with_reducible exact H)|(have H2_:=(Option.bind_some _ _).symm.trans H;rw [hy129];with_reducible exact H2_)|(have H2_:=(Option.bind_some _ _).symm.trans H;with_reducible exact H2_)|with_reducible exact H|(rw [hy129];exact H)|exact H
                have Ny129:=aM hy129;clear hy129;replace H:=Option.bind_eq_some_iff.mp H;obtain ⟨⟨t130,t131⟩,A410,H⟩:=H;replace H:((impl_MovesNeeded.f kj18 y129 t102).bind fun bt132=>(if t131=true then (if bt132.2=true then (if t113 > (wrap64 (t130+bt132.1)) then (some false) else (some true)) else (some false)) else (some false)))=some r:=H;have A41:=aM A410;clear A410;replace H:=Option.bind_eq_some_iff.mp H;obtain ⟨⟨t132,t133⟩,A420,H⟩:=H;replace H:(if t131=true then (if t133=true then (if t113 > (wrap64 (t130+t132)) then (some false) else (some true)) else (some false)) else (some false))=some r:=H;have A42:=aM A420;clear A420;by_cases c43:t131=true
                ·subst c43;have H1:(if t133=true then (if t113 > (wrap64 (t130+t132)) then (some false) else (some true)) else (some false))=some r:=by rw [if_pos rfl] at H;exact H
                 clear H;have H:=H1;clear H1;by_cases c44:t133=true
                 ·subst c44;have H1:(if t113 > (wrap64 (t130+t132)) then (some false) else (some true))=some r:=by rw [if_pos rfl] at H;exact H
                  clear H;have H:=H1;clear H1;by_cases c45:t113 > (wrap64 (t130+t132))
                  ·rw [if_pos c45] at H;have c45b0:decide ((wrap64 (t130+t132))<t113)=true:=decide_eq_true c45;clear c45
                   as_aux_lemma=>
                    obtain rfl:=Option.some.inj H;go_wp2_with (first|((with_reducible refine gate_dst (N:=108) rfl ?_);refine Kd.R_lit (Kd.int .i64) _ 3 ?hg (N:=108) ?hd (xs:=([]:List Int)) (inner:=[]) (ok:=fun _=>True) (okp:=fun _=>True) ?hr ?hp (fun _ hk=>hk) trivial (Below.refl _ _) (Nat.le_refl _) (by simp) ?_;(case hd=>rfl);(case hg=>rfl);(case hr=>first|(go_simp;done)|(go_simp;rfl));(case hp=>exact (Reps.none _ _));intro v119 w46 ho47 hb hg_ hnew_;clear hg_ hnew_;(first|rw [←Ny118.out] at ho47|(simp only [Int.reduceToNat] at ho47;rw [←Ny118.out] at ho47));have n0_:=aM (Kd.R_elder' (by (with_reducible repeat (first|apply Kd.Qe|apply Kd.Qd|apply Kd.R_drew));exact HO_5.out) (Kd.R_base ho47) hb);have n1_:=aM (Kd.R_elder' (by (with_reducible repeat (first|apply Kd.Qe|apply Kd.Qd|apply Kd.R_drew));exact HO_6.out) (Kd.R_base ho47) hb);have n2_:=aM (Kd.R_lower (Kd.R_new' (Kd.R_new' ho47 (Kd.R_lt (by (with_reducible repeat (first|apply Kd.Qe|apply Kd.Qd|apply Kd.R_drew));exact HO_5.out))) (Kd.R_lt (by (with_reducible repeat (first|apply Kd.Qe|apply Kd.Qd|apply Kd.R_drew));exact HO_6.out))) (below_size (by repeat (first|(with_reducible first|exact HB.out|apply Qc|apply Qa|apply Qb)|exact HB.out))));have n3_:=aM (below_step (by repeat (first|(with_reducible first|exact HB.out|apply Qc|apply Qa|apply Qb)|exact HB.out)) hb);clear HO_5;clear HO_6;clear HB;have HO_5:=n0_;have HO_6:=n1_;have HO120:=n2_;have HB:=n3_;clear n0_ n1_ n2_ n3_;clear hb ho47)|((with_reducible refine gate_builtin (b:= .append) (xs:=#[.tmp 108,.tmp 109]) rfl ?_);at_builtin;refine Kd.R_append_rows (Kd.int .i64) (w0:=w) w.heap.size rfl (.tmp 108) (.tmp 109) 34 3 (.int .i64 0) 8 rfl Try.underlying34 info3 rfl (by decide) (by omega) v119 y118 t101 _ _ _ (fun k_=>some k_≠(.slice Ao9 t101.length co9:Value).ownBlock∧some k_≠(.slice Ao10 t102.length co10:Value).ownBlock) (fun _=>False) rfl rfl ?aO ?aR (fun _ _ h=>h) (fun _ h=>h.elim) ?aF ?aB ?aS ?aL ?_;(case aR=>repeat (first|exact (Kd.Qf HO_5.out).2.2|(with_reducible refine Kd.C_alloc ?_ _)|(with_reducible refine Kd.C_drewN ?_ _)|(with_reducible refine Kd.C_drew ?_)));(case aB=>exact (by repeat (first|(with_reducible first|exact HB.out|apply Qc|apply Qa|apply Qb)|exact HB.out)));(case aF=>exact (fun k_ hk=>⟨Kd.fresh' (Kd.R_lt (by (with_reducible repeat (first|apply Kd.Qe|apply Kd.Qd|apply Kd.R_drew));exact HO_5.out)) k_ hk,Kd.fresh' (Kd.R_lt (by (with_reducible repeat (first|apply Kd.Qe|apply Kd.Qd|apply Kd.R_drew));exact HO_6.out)) k_ hk⟩));(case aO=>exact (by (with_reducible repeat (first|apply Kd.Qe|apply Kd.Qd|apply Kd.R_drew));exact Kd.R_mono HO120.out (fun _ hk=>⟨hk.1.2,hk.2⟩)));(case aS=>exact (below_size (by repeat (first|(with_reducible first|exact HB.out|apply Qc|apply Qa|apply Qb)|exact HB.out))));(case aL=>have:=LMc29.out;omega);intro v122 w48 ho hb hg hat;rw [←Ny121.out] at ho;have n0_:=aM (Kd.R_after (ok:=(fun k_=>some k_≠(.slice Ao10 t102.length co10:Value).ownBlock)) (by (with_reducible repeat (first|apply Kd.Qe|apply Kd.Qd|apply Kd.R_drew));exact HO_5.out) hg hat);have n1_:=aM (Kd.R_after (ok:=(fun k_=>some k_≠(.slice Ao9 t101.length co9:Value).ownBlock)) (by (with_reducible repeat (first|apply Kd.Qe|apply Kd.Qd|apply Kd.R_drew));exact HO_6.out) hg hat);have n2_:=aM (hb);have n3_:=aM (ho);clear HO_5;clear HO_6;clear HB;clear HO120;have HO_5:=n0_;have HO_6:=n1_;have HB:=n2_;have HO123:=n3_;clear n0_ n1_ n2_ n3_;clear ho hb hg hat)|((with_reducible refine Qh (f:=32) rfl ?_);refine goesL_ (some 112) rfl rfl Try.func32 (by kernel_rfl) rfl #[.slice A1 l1.length c1] rfl (by (try simp only [aD,aE,aF]);first|done|rfl|(simp only [aG,aH];rfl)) ?_;(with_reducible refine (laws_numberOf.calls kj18 _ _ l1 t124 _ ?side1 ?side2 A30.out).mono ?_);(case side1=>repeat (first|exact (Kd.C_below HR1.out HB.out)|(with_reducible refine Kd.C_alloc ?_ _)|(with_reducible refine Kd.C_drewN ?_ _)|(with_reducible refine Kd.C_drew ?_)));(case side2=>exact HC1.out);rintro e w' ⟨rfl,⟨nd,rfl⟩⟩;refine ⟨_,rfl,?_⟩;(try (rw [drewN_self w48];generalize hq_:World.drewN w48 _=w48;have n0_:Aside0 (Kd.R (Kd.int .i64) 3 w48 w.heap.size (fun k_=>(some k_≠(.slice Ao9 t101.length co9:Value).ownBlock∧some k_≠(.slice Ao10 t102.length co10:Value).ownBlock)) v122 y121):=⟨by rw [←hq_];exact (by (with_reducible repeat (first|apply Kd.Qe|apply Kd.Qd|apply Kd.R_drew));exact HO123.out)⟩;have n1_:Aside0 (Kd.R (Kd.int .i64) 3 w48 w.heap.size (fun k_=>(some k_≠(.slice Ao10 t102.length co10:Value).ownBlock∧some k_≠(v122:Value).ownBlock)) (.slice Ao9 t101.length co9) t101):=⟨by rw [←hq_];exact (by (with_reducible repeat (first|apply Kd.Qe|apply Kd.Qd|apply Kd.R_drew));exact HO_5.out)⟩;have n2_:Aside0 (Kd.R (Kd.int .i64) 3 w48 w.heap.size (fun k_=>(some k_≠(.slice Ao9 t101.length co9:Value).ownBlock∧some k_≠(v122:Value).ownBlock)) (.slice Ao10 t102.length co10) t102):=⟨by rw [←hq_];exact (by (with_reducible repeat (first|apply Kd.Qe|apply Kd.Qd|apply Kd.R_drew));exact HO_6.out)⟩;have n3_:Aside0 (Below w.heap.size w w48):=⟨by rw [←hq_];exact (by repeat (first|(with_reducible first|exact HB.out|apply Qc|apply Qa|apply Qb)|exact HB.out))⟩;clear HO123 HO_5 HO_6 HB hq_;have HO123:=n0_;have HO_5:=n1_;have HO_6:=n2_;have HB:=n3_;clear n0_ n1_ n2_ n3_));obtain ⟨Ao49,co49,eo49⟩:=Kd.R_slice HO123.out;subst eo49)|((with_reducible refine Qh (f:=32) rfl ?_);refine goesL_ (some 117) rfl rfl Try.func32 (by kernel_rfl) rfl #[.slice A1 l1.length c1] rfl (by (try simp only [aD,aE,aF]);first|done|rfl|(simp only [aG,aH];rfl)) ?_;(with_reducible refine (laws_numberOf.calls kj18 _ _ l1 t125 _ ?side1 ?side2 A32.out).mono ?_);(case side1=>repeat (first|exact (Kd.C_below HR1.out HB.out)|(with_reducible refine Kd.C_alloc ?_ _)|(with_reducible refine Kd.C_drewN ?_ _)|(with_reducible refine Kd.C_drew ?_)));(case side2=>exact HC1.out);rintro e w' ⟨rfl,⟨nd,rfl⟩⟩;refine ⟨_,rfl,?_⟩;(try (rw [drewN_self w48];generalize hq_:World.drewN w48 _=w48;have n0_:Aside0 (Kd.R (Kd.int .i64) 3 w48 w.heap.size (fun k_=>(some k_≠(.slice Ao9 t101.length co9:Value).ownBlock∧some k_≠(.slice Ao10 t102.length co10:Value).ownBlock)) (.slice Ao49 y121.length co49) y121):=⟨by rw [←hq_];exact (by (with_reducible repeat (first|apply Kd.Qe|apply Kd.Qd|apply Kd.R_drew));exact HO123.out)⟩;have n1_:Aside0 (Kd.R (Kd.int .i64) 3 w48 w.heap.size (fun k_=>(some k_≠(.slice Ao10 t102.length co10:Value).ownBlock∧some k_≠(.slice Ao49 y121.length co49:Value).ownBlock)) (.slice Ao9 t101.length co9) t101):=⟨by rw [←hq_];exact (by (with_reducible repeat (first|apply Kd.Qe|apply Kd.Qd|apply Kd.R_drew));exact HO_5.out)⟩;have n2_:Aside0 (Kd.R (Kd.int .i64) 3 w48 w.heap.size (fun k_=>(some k_≠(.slice Ao9 t101.length co9:Value).ownBlock∧some k_≠(.slice Ao49 y121.length co49:Value).ownBlock)) (.slice Ao10 t102.length co10) t102):=⟨by rw [←hq_];exact (by (with_reducible repeat (first|apply Kd.Qe|apply Kd.Qd|apply Kd.R_drew));exact HO_6.out)⟩;have n3_:Aside0 (Below w.heap.size w w48):=⟨by rw [←hq_];exact (by repeat (first|(with_reducible first|exact HB.out|apply Qc|apply Qa|apply Qb)|exact HB.out))⟩;clear HO123 HO_5 HO_6 HB hq_;have HO123:=n0_;have HO_5:=n1_;have HO_6:=n2_;have HB:=n3_;clear n0_ n1_ n2_ n3_));have p126:0≤((ji33):Int):=of_decide_eq_true (by first|(with_reducible assumption)|assumption);have q126:(ji33)<(y121.length:Int):=of_decide_eq_true (by first|(with_reducible assumption)|assumption);obtain ⟨ad126,e126,hx126_0⟩:=Kd.at_int (Kd.Qf HO123.out).2.2 (ji33) p126 q126;cases e126;replace p126:=eq_true p126;replace q126:=eq_true q126;have p127:0≤((ji36):Int):=of_decide_eq_true (by first|(with_reducible assumption)|assumption);have q127:(ji36)<(y121.length:Int):=of_decide_eq_true (by first|(with_reducible assumption)|assumption);obtain ⟨ad127,e127,hx127_0⟩:=Kd.at_int (Kd.Qf HO123.out).2.2 (ji36) p127 q127;obtain rfl:ad126=ad127:=(by injection e127);replace p127:=eq_true p127;replace q127:=eq_true q127;have p39:0≤((ji33):Int):=of_decide_eq_true (by first|(with_reducible assumption)|assumption);have q39:((ji33):Int)<((y121.length:Int):Int):=of_decide_eq_true (by first|(with_reducible assumption)|assumption);obtain ⟨go39,co39,eo39,gb39,gl39,cl39,HG39⟩:=Kd.R_form HO123.out (by omega);(first|cases eo39|(injection eo39 with ea_ en_ ec_;(first|subst ea_|(injection ea_ with ea_;subst ea_));subst ec_;clear en_));have GB39:=aM gb39;have GG39:=aM HG39;clear gb39 gl39 HG39;(first|simp only [add_plain] at hx126_0|skip);(first|simp only [add_plain] at hx127_0|skip);obtain ⟨hx39_0,hf39_0⟩:=Kd.R_celln 0 HO123.out ((ji33):Int) p39 q39;replace p39:=eq_true p39;replace q39:=eq_true q39;obtain ⟨hy50_,hz50_⟩:=Kd.R_celln 0 HO123.out ((ji33):Int) (of_decide_eq_true (by first|(with_reducible assumption)|assumption)) (of_decide_eq_true (by first|(with_reducible assumption)|assumption));have HP50:=Kd.R_putg HO123.out ((ji33):Int) (rd y121 (ji36)))|((with_reducible refine gate_store (t:=3) (p:=132) rfl ?_);refine store_event (t:=3) (p:=132) (v:=?vo_w51) (w1:=(w48.setCell ⟨go39,((ji33):Int).toNat,none⟩ (.int .i64 (rd y121 (ji36))))) ?hg ?ho ?hn ?hr ?_;(case ho=>rfl);(case hg=>rfl);(case hn=>rfl);(case hr=>first|(go_simp;done)|(go_simp;rfl));intro w51 hw;have hg:w48.grownBy w51 (some go39):=(by rw [hw];exact HP50.2);have hp_:Kd.R (Kd.int .i64) 3 w51 w.heap.size (fun k_=>some k_≠(.slice Ao9 t101.length co9:Value).ownBlock∧some k_≠(.slice Ao10 t102.length co10:Value).ownBlock) (.slice (some ⟨go39,0,none⟩) y121.length co49) y128:=(by rw [hw,Ny128.out];exact HP50.1);clear HP50;have n0_:=aM (Kd.R_after (v:=(.slice (some ⟨go39,0,none⟩) y121.length co49)) (v1:=(.slice (some ⟨go39,0,none⟩) y121.length co49)) (ok:=(fun k_=>some k_≠(.slice Ao10 t102.length co10:Value).ownBlock)) (by (with_reducible repeat (first|apply Kd.Qe|apply Kd.Qd|apply Kd.R_drew));exact HO_5.out) hg (.inl rfl));have n1_:=aM (Kd.R_after (v:=(.slice (some ⟨go39,0,none⟩) y121.length co49)) (v1:=(.slice (some ⟨go39,0,none⟩) y121.length co49)) (ok:=(fun k_=>some k_≠(.slice Ao9 t101.length co9:Value).ownBlock)) (by (with_reducible repeat (first|apply Kd.Qe|apply Kd.Qd|apply Kd.R_drew));exact HO_6.out) hg (.inl rfl));have n2_:=aM (hp_);have n3_:=aM ((by rw [hw];exact Qg (HB.out) GB39.out:Below w.heap.size w w51));clear HO_5;clear HO_6;clear HO123;clear HB;have HO_5:=n0_;have HO_6:=n1_;have HO123:=n2_;have HB:=n3_;clear n0_ n1_ n2_ n3_;clear hg hw hp_;have p40:0≤((ji36):Int):=of_decide_eq_true (by first|(with_reducible assumption)|assumption);have q40:((ji36):Int)<((y121.length:Int):Int):=of_decide_eq_true (by first|(with_reducible assumption)|assumption);obtain ⟨hx40_0,hf40_0⟩:=Kd.R_celln 0 HO123.out ((ji36):Int) p40 q40;replace p40:=eq_true p40;replace q40:=eq_true q40;obtain ⟨hy52_,hz52_⟩:=Kd.R_celln 0 HO123.out ((ji36):Int) (of_decide_eq_true (by first|(with_reducible assumption)|assumption)) (of_decide_eq_true (by first|(with_reducible assumption)|assumption));have HP52:=Kd.R_putg HO123.out ((ji36):Int) (rd y121 (ji33)))|((with_reducible refine gate_store (t:=3) (p:=136) rfl ?_);refine store_event (t:=3) (p:=136) (v:=?vo_w53) (w1:=(w51.setCell ⟨go39,((ji36):Int).toNat,none⟩ (.int .i64 (rd y121 (ji33))))) ?hg ?ho ?hn ?hr ?_;(case ho=>rfl);(case hg=>rfl);(case hn=>rfl);(case hr=>first|(go_simp;done)|(go_simp;rfl));intro w53 hw;have hg:w51.grownBy w53 (some go39):=(by rw [hw];exact HP52.2);have hp_:Kd.R (Kd.int .i64) 3 w53 w.heap.size (fun k_=>some k_≠(.slice Ao9 t101.length co9:Value).ownBlock∧some k_≠(.slice Ao10 t102.length co10:Value).ownBlock) (.slice (some ⟨go39,0,none⟩) y121.length co49) y129:=(by rw [hw,Ny129.out];exact HP52.1);clear HP52;have n0_:=aM (Kd.R_after (v:=(.slice (some ⟨go39,0,none⟩) y121.length co49)) (v1:=(.slice (some ⟨go39,0,none⟩) y121.length co49)) (ok:=(fun k_=>some k_≠(.slice Ao10 t102.length co10:Value).ownBlock)) (by (with_reducible repeat (first|apply Kd.Qe|apply Kd.Qd|apply Kd.R_drew));exact HO_5.out) hg (.inl rfl));have n1_:=aM (Kd.R_after (v:=(.slice (some ⟨go39,0,none⟩) y121.length co49)) (v1:=(.slice (some ⟨go39,0,none⟩) y121.length co49)) (ok:=(fun k_=>some k_≠(.slice Ao9 t101.length co9:Value).ownBlock)) (by (with_reducible repeat (first|apply Kd.Qe|apply Kd.Qd|apply Kd.R_drew));exact HO_6.out) hg (.inl rfl));have n2_:=aM (hp_);have n3_:=aM ((by rw [hw];exact Qg (HB.out) GB39.out:Below w.heap.size w w53));clear HO_5;clear HO_6;clear HO123;clear HB;have HO_5:=n0_;have HO_6:=n1_;have HO123:=n2_;have HB:=n3_;clear n0_ n1_ n2_ n3_;clear hg hw hp_)|((with_reducible refine Qh (f:=53) rfl ?_);refine goesL_ (some 140) rfl rfl Try.func53 (by kernel_rfl) rfl #[.slice Ao9 t101.length co9,.slice (some ⟨go39,0,none⟩) y129.length co49] rfl (by (try simp only [aD,aE,aF]);first|done|(rw [show y129.length=y121.length from (Kd.Qf HO123.out).1.symm] <;> rfl)|rfl|(simp only [aG,aH];rfl)) ?_;(with_reducible refine (impl_MovesNeeded.calls kj18 _ _ t101 _ _ y129 t130 true _ ?side1 ?side2 ?side3 ?side4 A41.out).mono ?_);(case side1=>repeat (first|exact (Kd.Qf HO_5.out).2.2|(with_reducible refine Kd.C_alloc ?_ _)|(with_reducible refine Kd.C_drewN ?_ _)|(with_reducible refine Kd.C_drew ?_)));(case side2=>exact (Kd.Qf HO_5.out).2.1);(case side3=>repeat (first|exact (Kd.Qf HO123.out).2.2|(with_reducible refine Kd.C_alloc ?_ _)|(with_reducible refine Kd.C_drewN ?_ _)|(with_reducible refine Kd.C_drew ?_)));(case side4=>rw [show y129.length=y121.length from (Kd.Qf HO123.out).1.symm];exact (Kd.Qf HO123.out).2.1);rintro e w54 ⟨rfl,hb⟩;refine ⟨_,rfl,?_⟩;have n0_:=aM (Kd.R_below (by (with_reducible repeat (first|apply Kd.Qe|apply Kd.Qd|apply Kd.R_drew));exact HO_5.out) hb);have n1_:=aM (Kd.R_below (by (with_reducible repeat (first|apply Kd.Qe|apply Kd.Qd|apply Kd.R_drew));exact HO_6.out) hb);have n2_:=aM (Kd.R_below (by (with_reducible repeat (first|apply Kd.Qe|apply Kd.Qd|apply Kd.R_drew));exact HO123.out) hb);have n3_:=aM (below_step (by repeat (first|(with_reducible first|exact HB.out|apply Qc|apply Qa|apply Qb)|exact HB.out)) hb);clear HO_5;clear HO_6;clear HO123;clear HB;have HO_5:=n0_;have HO_6:=n1_;have HO123:=n2_;have HB:=n3_;clear n0_ n1_ n2_ n3_;(try clear hb);(try clear hb2);(try clear hk);(try clear hi))|((with_reducible refine Qh (f:=53) rfl ?_);refine goesL_ (some 146) rfl rfl Try.func53 (by kernel_rfl) rfl #[.slice (some ⟨go39,0,none⟩) y129.length co49,.slice Ao10 t102.length co10] rfl (by (try simp only [aD,aE,aF]);first|done|(rw [show y129.length=y121.length from (Kd.Qf HO123.out).1.symm] <;> rfl)|rfl|(simp only [aG,aH];rfl)) ?_;(with_reducible refine (impl_MovesNeeded.calls kj18 _ _ y129 _ _ t102 t132 true _ ?side1 ?side2 ?side3 ?side4 A42.out).mono ?_);(case side1=>repeat (first|exact (Kd.Qf HO123.out).2.2|(with_reducible refine Kd.C_alloc ?_ _)|(with_reducible refine Kd.C_drewN ?_ _)|(with_reducible refine Kd.C_drew ?_)));(case side2=>rw [show y129.length=y121.length from (Kd.Qf HO123.out).1.symm];exact (Kd.Qf HO123.out).2.1);(case side3=>repeat (first|exact (Kd.Qf HO_6.out).2.2|(with_reducible refine Kd.C_alloc ?_ _)|(with_reducible refine Kd.C_drewN ?_ _)|(with_reducible refine Kd.C_drew ?_)));(case side4=>exact (Kd.Qf HO_6.out).2.1);rintro e w55 ⟨rfl,hb⟩;refine ⟨_,rfl,?_⟩;have n0_:=aM (Kd.R_below (by (with_reducible repeat (first|apply Kd.Qe|apply Kd.Qd|apply Kd.R_drew));exact HO_5.out) hb);have n1_:=aM (Kd.R_below (by (with_reducible repeat (first|apply Kd.Qe|apply Kd.Qd|apply Kd.R_drew));exact HO_6.out) hb);have n2_:=aM (Kd.R_below (by (with_reducible repeat (first|apply Kd.Qe|apply Kd.Qd|apply Kd.R_drew));exact HO123.out) hb);have n3_:=aM (below_step (by repeat (first|(with_reducible first|exact HB.out|apply Qc|apply Qa|apply Qb)|exact HB.out)) hb);clear HO_5;clear HO_6;clear HO123;clear HB;have HO_5:=n0_;have HO_6:=n1_;have HO123:=n2_;have HB:=n3_;clear n0_ n1_ n2_ n3_;(try clear hb);(try clear hb2);(try clear hk);(try clear hi)))
                    go_ret
                    exact ⟨by first|rfl|(simp [errW_none,errW_some] <;> rfl)|(simp only [←hji33,←hji36];first|rfl|(simp [errW_none,errW_some] <;> rfl))|(simp [*,errW_none,errW_some] <;> rfl),by repeat (first|(with_reducible first|exact HB.out|apply Qc|apply Qa|apply Qb)|exact HB.out)⟩
                  ·rw [if_neg c45] at H;have c45b0:decide ((wrap64 (t130+t132))<t113)=false:=decide_eq_false c45;clear c45
                   as_aux_lemma=>
                    obtain rfl:=Option.some.inj H;go_wp2_with (first|((with_reducible refine gate_dst (N:=108) rfl ?_);refine Kd.R_lit (Kd.int .i64) _ 3 ?hg (N:=108) ?hd (xs:=([]:List Int)) (inner:=[]) (ok:=fun _=>True) (okp:=fun _=>True) ?hr ?hp (fun _ hk=>hk) trivial (Below.refl _ _) (Nat.le_refl _) (by simp) ?_;(case hd=>rfl);(case hg=>rfl);(case hr=>first|(go_simp;done)|(go_simp;rfl));(case hp=>exact (Reps.none _ _));intro v119 w56 ho57 hb hg_ hnew_;clear hg_ hnew_;(first|rw [←Ny118.out] at ho57|(simp only [Int.reduceToNat] at ho57;rw [←Ny118.out] at ho57));have n0_:=aM (Kd.R_elder' (by (with_reducible repeat (first|apply Kd.Qe|apply Kd.Qd|apply Kd.R_drew));exact HO_5.out) (Kd.R_base ho57) hb);have n1_:=aM (Kd.R_elder' (by (with_reducible repeat (first|apply Kd.Qe|apply Kd.Qd|apply Kd.R_drew));exact HO_6.out) (Kd.R_base ho57) hb);have n2_:=aM (Kd.R_lower (Kd.R_new' (Kd.R_new' ho57 (Kd.R_lt (by (with_reducible repeat (first|apply Kd.Qe|apply Kd.Qd|apply Kd.R_drew));exact HO_5.out))) (Kd.R_lt (by (with_reducible repeat (first|apply Kd.Qe|apply Kd.Qd|apply Kd.R_drew));exact HO_6.out))) (below_size (by repeat (first|(with_reducible first|exact HB.out|apply Qc|apply Qa|apply Qb)|exact HB.out))));have n3_:=aM (below_step (by repeat (first|(with_reducible first|exact HB.out|apply Qc|apply Qa|apply Qb)|exact HB.out)) hb);clear HO_5;clear HO_6;clear HB;have HO_5:=n0_;have HO_6:=n1_;have HO120:=n2_;have HB:=n3_;clear n0_ n1_ n2_ n3_;clear hb ho57)|((with_reducible refine gate_builtin (b:= .append) (xs:=#[.tmp 108,.tmp 109]) rfl ?_);at_builtin;refine Kd.R_append_rows (Kd.int .i64) (w0:=w) w.heap.size rfl (.tmp 108) (.tmp 109) 34 3 (.int .i64 0) 8 rfl Try.underlying34 info3 rfl (by decide) (by omega) v119 y118 t101 _ _ _ (fun k_=>some k_≠(.slice Ao9 t101.length co9:Value).ownBlock∧some k_≠(.slice Ao10 t102.length co10:Value).ownBlock) (fun _=>False) rfl rfl ?aO ?aR (fun _ _ h=>h) (fun _ h=>h.elim) ?aF ?aB ?aS ?aL ?_;(case aR=>repeat (first|exact (Kd.Qf HO_5.out).2.2|(with_reducible refine Kd.C_alloc ?_ _)|(with_reducible refine Kd.C_drewN ?_ _)|(with_reducible refine Kd.C_drew ?_)));(case aB=>exact (by repeat (first|(with_reducible first|exact HB.out|apply Qc|apply Qa|apply Qb)|exact HB.out)));(case aF=>exact (fun k_ hk=>⟨Kd.fresh' (Kd.R_lt (by (with_reducible repeat (first|apply Kd.Qe|apply Kd.Qd|apply Kd.R_drew));exact HO_5.out)) k_ hk,Kd.fresh' (Kd.R_lt (by (with_reducible repeat (first|apply Kd.Qe|apply Kd.Qd|apply Kd.R_drew));exact HO_6.out)) k_ hk⟩));(case aO=>exact (by (with_reducible repeat (first|apply Kd.Qe|apply Kd.Qd|apply Kd.R_drew));exact Kd.R_mono HO120.out (fun _ hk=>⟨hk.1.2,hk.2⟩)));(case aS=>exact (below_size (by repeat (first|(with_reducible first|exact HB.out|apply Qc|apply Qa|apply Qb)|exact HB.out))));(case aL=>have:=LMc29.out;omega);intro v122 w58 ho hb hg hat;rw [←Ny121.out] at ho;have n0_:=aM (Kd.R_after (ok:=(fun k_=>some k_≠(.slice Ao10 t102.length co10:Value).ownBlock)) (by (with_reducible repeat (first|apply Kd.Qe|apply Kd.Qd|apply Kd.R_drew));exact HO_5.out) hg hat);have n1_:=aM (Kd.R_after (ok:=(fun k_=>some k_≠(.slice Ao9 t101.length co9:Value).ownBlock)) (by (with_reducible repeat (first|apply Kd.Qe|apply Kd.Qd|apply Kd.R_drew));exact HO_6.out) hg hat);have n2_:=aM (hb);have n3_:=aM (ho);clear HO_5;clear HO_6;clear HB;clear HO120;have HO_5:=n0_;have HO_6:=n1_;have HB:=n2_;have HO123:=n3_;clear n0_ n1_ n2_ n3_;clear ho hb hg hat)|((with_reducible refine Qh (f:=32) rfl ?_);refine goesL_ (some 112) rfl rfl Try.func32 (by kernel_rfl) rfl #[.slice A1 l1.length c1] rfl (by (try simp only [aD,aE,aF]);first|done|rfl|(simp only [aG,aH];rfl)) ?_;(with_reducible refine (laws_numberOf.calls kj18 _ _ l1 t124 _ ?side1 ?side2 A30.out).mono ?_);(case side1=>repeat (first|exact (Kd.C_below HR1.out HB.out)|(with_reducible refine Kd.C_alloc ?_ _)|(with_reducible refine Kd.C_drewN ?_ _)|(with_reducible refine Kd.C_drew ?_)));(case side2=>exact HC1.out);rintro e w' ⟨rfl,⟨nd,rfl⟩⟩;refine ⟨_,rfl,?_⟩;(try (rw [drewN_self w58];generalize hq_:World.drewN w58 _=w58;have n0_:Aside0 (Kd.R (Kd.int .i64) 3 w58 w.heap.size (fun k_=>(some k_≠(.slice Ao9 t101.length co9:Value).ownBlock∧some k_≠(.slice Ao10 t102.length co10:Value).ownBlock)) v122 y121):=⟨by rw [←hq_];exact (by (with_reducible repeat (first|apply Kd.Qe|apply Kd.Qd|apply Kd.R_drew));exact HO123.out)⟩;have n1_:Aside0 (Kd.R (Kd.int .i64) 3 w58 w.heap.size (fun k_=>(some k_≠(.slice Ao10 t102.length co10:Value).ownBlock∧some k_≠(v122:Value).ownBlock)) (.slice Ao9 t101.length co9) t101):=⟨by rw [←hq_];exact (by (with_reducible repeat (first|apply Kd.Qe|apply Kd.Qd|apply Kd.R_drew));exact HO_5.out)⟩;have n2_:Aside0 (Kd.R (Kd.int .i64) 3 w58 w.heap.size (fun k_=>(some k_≠(.slice Ao9 t101.length co9:Value).ownBlock∧some k_≠(v122:Value).ownBlock)) (.slice Ao10 t102.length co10) t102):=⟨by rw [←hq_];exact (by (with_reducible repeat (first|apply Kd.Qe|apply Kd.Qd|apply Kd.R_drew));exact HO_6.out)⟩;have n3_:Aside0 (Below w.heap.size w w58):=⟨by rw [←hq_];exact (by repeat (first|(with_reducible first|exact HB.out|apply Qc|apply Qa|apply Qb)|exact HB.out))⟩;clear HO123 HO_5 HO_6 HB hq_;have HO123:=n0_;have HO_5:=n1_;have HO_6:=n2_;have HB:=n3_;clear n0_ n1_ n2_ n3_));obtain ⟨Ao59,co59,eo59⟩:=Kd.R_slice HO123.out;subst eo59)|((with_reducible refine Qh (f:=32) rfl ?_);refine goesL_ (some 117) rfl rfl Try.func32 (by kernel_rfl) rfl #[.slice A1 l1.length c1] rfl (by (try simp only [aD,aE,aF]);first|done|rfl|(simp only [aG,aH];rfl)) ?_;(with_reducible refine (laws_numberOf.calls kj18 _ _ l1 t125 _ ?side1 ?side2 A32.out).mono ?_);(case side1=>repeat (first|exact (Kd.C_below HR1.out HB.out)|(with_reducible refine Kd.C_alloc ?_ _)|(with_reducible refine Kd.C_drewN ?_ _)|(with_reducible refine Kd.C_drew ?_)));(case side2=>exact HC1.out);rintro e w' ⟨rfl,⟨nd,rfl⟩⟩;refine ⟨_,rfl,?_⟩;(try (rw [drewN_self w58];generalize hq_:World.drewN w58 _=w58;have n0_:Aside0 (Kd.R (Kd.int .i64) 3 w58 w.heap.size (fun k_=>(some k_≠(.slice Ao9 t101.length co9:Value).ownBlock∧some k_≠(.slice Ao10 t102.length co10:Value).ownBlock)) (.slice Ao59 y121.length co59) y121):=⟨by rw [←hq_];exact (by (with_reducible repeat (first|apply Kd.Qe|apply Kd.Qd|apply Kd.R_drew));exact HO123.out)⟩;have n1_:Aside0 (Kd.R (Kd.int .i64) 3 w58 w.heap.size (fun k_=>(some k_≠(.slice Ao10 t102.length co10:Value).ownBlock∧some k_≠(.slice Ao59 y121.length co59:Value).ownBlock)) (.slice Ao9 t101.length co9) t101):=⟨by rw [←hq_];exact (by (with_reducible repeat (first|apply Kd.Qe|apply Kd.Qd|apply Kd.R_drew));exact HO_5.out)⟩;have n2_:Aside0 (Kd.R (Kd.int .i64) 3 w58 w.heap.size (fun k_=>(some k_≠(.slice Ao9 t101.length co9:Value).ownBlock∧some k_≠(.slice Ao59 y121.length co59:Value).ownBlock)) (.slice Ao10 t102.length co10) t102):=⟨by rw [←hq_];exact (by (with_reducible repeat (first|apply Kd.Qe|apply Kd.Qd|apply Kd.R_drew));exact HO_6.out)⟩;have n3_:Aside0 (Below w.heap.size w w58):=⟨by rw [←hq_];exact (by repeat (first|(with_reducible first|exact HB.out|apply Qc|apply Qa|apply Qb)|exact HB.out))⟩;clear HO123 HO_5 HO_6 HB hq_;have HO123:=n0_;have HO_5:=n1_;have HO_6:=n2_;have HB:=n3_;clear n0_ n1_ n2_ n3_));have p126:0≤((ji33):Int):=of_decide_eq_true (by first|(with_reducible assumption)|assumption);have q126:(ji33)<(y121.length:Int):=of_decide_eq_true (by first|(with_reducible assumption)|assumption);obtain ⟨ad126,e126,hx126_0⟩:=Kd.at_int (Kd.Qf HO123.out).2.2 (ji33) p126 q126;cases e126;replace p126:=eq_true p126;replace q126:=eq_true q126;have p127:0≤((ji36):Int):=of_decide_eq_true (by first|(with_reducible assumption)|assumption);have q127:(ji36)<(y121.length:Int):=of_decide_eq_true (by first|(with_reducible assumption)|assumption);obtain ⟨ad127,e127,hx127_0⟩:=Kd.at_int (Kd.Qf HO123.out).2.2 (ji36) p127 q127;obtain rfl:ad126=ad127:=(by injection e127);replace p127:=eq_true p127;replace q127:=eq_true q127;have p39:0≤((ji33):Int):=of_decide_eq_true (by first|(with_reducible assumption)|assumption);have q39:((ji33):Int)<((y121.length:Int):Int):=of_decide_eq_true (by first|(with_reducible assumption)|assumption);obtain ⟨go39,co39,eo39,gb39,gl39,cl39,HG39⟩:=Kd.R_form HO123.out (by omega);(first|cases eo39|(injection eo39 with ea_ en_ ec_;(first|subst ea_|(injection ea_ with ea_;subst ea_));subst ec_;clear en_));have GB39:=aM gb39;have GG39:=aM HG39;clear gb39 gl39 HG39;(first|simp only [add_plain] at hx126_0|skip);(first|simp only [add_plain] at hx127_0|skip);obtain ⟨hx39_0,hf39_0⟩:=Kd.R_celln 0 HO123.out ((ji33):Int) p39 q39;replace p39:=eq_true p39;replace q39:=eq_true q39;obtain ⟨hy60_,hz60_⟩:=Kd.R_celln 0 HO123.out ((ji33):Int) (of_decide_eq_true (by first|(with_reducible assumption)|assumption)) (of_decide_eq_true (by first|(with_reducible assumption)|assumption));have HP60:=Kd.R_putg HO123.out ((ji33):Int) (rd y121 (ji36)))|((with_reducible refine gate_store (t:=3) (p:=132) rfl ?_);refine store_event (t:=3) (p:=132) (v:=?vo_w61) (w1:=(w58.setCell ⟨go39,((ji33):Int).toNat,none⟩ (.int .i64 (rd y121 (ji36))))) ?hg ?ho ?hn ?hr ?_;(case ho=>rfl);(case hg=>rfl);(case hn=>rfl);(case hr=>first|(go_simp;done)|(go_simp;rfl));intro w61 hw;have hg:w58.grownBy w61 (some go39):=(by rw [hw];exact HP60.2);have hp_:Kd.R (Kd.int .i64) 3 w61 w.heap.size (fun k_=>some k_≠(.slice Ao9 t101.length co9:Value).ownBlock∧some k_≠(.slice Ao10 t102.length co10:Value).ownBlock) (.slice (some ⟨go39,0,none⟩) y121.length co59) y128:=(by rw [hw,Ny128.out];exact HP60.1);clear HP60;have n0_:=aM (Kd.R_after (v:=(.slice (some ⟨go39,0,none⟩) y121.length co59)) (v1:=(.slice (some ⟨go39,0,none⟩) y121.length co59)) (ok:=(fun k_=>some k_≠(.slice Ao10 t102.length co10:Value).ownBlock)) (by (with_reducible repeat (first|apply Kd.Qe|apply Kd.Qd|apply Kd.R_drew));exact HO_5.out) hg (.inl rfl));have n1_:=aM (Kd.R_after (v:=(.slice (some ⟨go39,0,none⟩) y121.length co59)) (v1:=(.slice (some ⟨go39,0,none⟩) y121.length co59)) (ok:=(fun k_=>some k_≠(.slice Ao9 t101.length co9:Value).ownBlock)) (by (with_reducible repeat (first|apply Kd.Qe|apply Kd.Qd|apply Kd.R_drew));exact HO_6.out) hg (.inl rfl));have n2_:=aM (hp_);have n3_:=aM ((by rw [hw];exact Qg (HB.out) GB39.out:Below w.heap.size w w61));clear HO_5;clear HO_6;clear HO123;clear HB;have HO_5:=n0_;have HO_6:=n1_;have HO123:=n2_;have HB:=n3_;clear n0_ n1_ n2_ n3_;clear hg hw hp_;have p40:0≤((ji36):Int):=of_decide_eq_true (by first|(with_reducible assumption)|assumption);have q40:((ji36):Int)<((y121.length:Int):Int):=of_decide_eq_true (by first|(with_reducible assumption)|assumption);obtain ⟨hx40_0,hf40_0⟩:=Kd.R_celln 0 HO123.out ((ji36):Int) p40 q40;replace p40:=eq_true p40;replace q40:=eq_true q40;obtain ⟨hy62_,hz62_⟩:=Kd.R_celln 0 HO123.out ((ji36):Int) (of_decide_eq_true (by first|(with_reducible assumption)|assumption)) (of_decide_eq_true (by first|(with_reducible assumption)|assumption));have HP62:=Kd.R_putg HO123.out ((ji36):Int) (rd y121 (ji33)))|((with_reducible refine gate_store (t:=3) (p:=136) rfl ?_);refine store_event (t:=3) (p:=136) (v:=?vo_w63) (w1:=(w61.setCell ⟨go39,((ji36):Int).toNat,none⟩ (.int .i64 (rd y121 (ji33))))) ?hg ?ho ?hn ?hr ?_;(case ho=>rfl);(case hg=>rfl);(case hn=>rfl);(case hr=>first|(go_simp;done)|(go_simp;rfl));intro w63 hw;have hg:w61.grownBy w63 (some go39):=(by rw [hw];exact HP62.2);have hp_:Kd.R (Kd.int .i64) 3 w63 w.heap.size (fun k_=>some k_≠(.slice Ao9 t101.length co9:Value).ownBlock∧some k_≠(.slice Ao10 t102.length co10:Value).ownBlock) (.slice (some ⟨go39,0,none⟩) y121.length co59) y129:=(by rw [hw,Ny129.out];exact HP62.1);clear HP62;have n0_:=aM (Kd.R_after (v:=(.slice (some ⟨go39,0,none⟩) y121.length co59)) (v1:=(.slice (some ⟨go39,0,none⟩) y121.length co59)) (ok:=(fun k_=>some k_≠(.slice Ao10 t102.length co10:Value).ownBlock)) (by (with_reducible repeat (first|apply Kd.Qe|apply Kd.Qd|apply Kd.R_drew));exact HO_5.out) hg (.inl rfl));have n1_:=aM (Kd.R_after (v:=(.slice (some ⟨go39,0,none⟩) y121.length co59)) (v1:=(.slice (some ⟨go39,0,none⟩) y121.length co59)) (ok:=(fun k_=>some k_≠(.slice Ao9 t101.length co9:Value).ownBlock)) (by (with_reducible repeat (first|apply Kd.Qe|apply Kd.Qd|apply Kd.R_drew));exact HO_6.out) hg (.inl rfl));have n2_:=aM (hp_);have n3_:=aM ((by rw [hw];exact Qg (HB.out) GB39.out:Below w.heap.size w w63));clear HO_5;clear HO_6;clear HO123;clear HB;have HO_5:=n0_;have HO_6:=n1_;have HO123:=n2_;have HB:=n3_;clear n0_ n1_ n2_ n3_;clear hg hw hp_)|((with_reducible refine Qh (f:=53) rfl ?_);refine goesL_ (some 140) rfl rfl Try.func53 (by kernel_rfl) rfl #[.slice Ao9 t101.length co9,.slice (some ⟨go39,0,none⟩) y129.length co59] rfl (by (try simp only [aD,aE,aF]);first|done|(rw [show y129.length=y121.length from (Kd.Qf HO123.out).1.symm] <;> rfl)|rfl|(simp only [aG,aH];rfl)) ?_;(with_reducible refine (impl_MovesNeeded.calls kj18 _ _ t101 _ _ y129 t130 true _ ?side1 ?side2 ?side3 ?side4 A41.out).mono ?_);(case side1=>repeat (first|exact (Kd.Qf HO_5.out).2.2|(with_reducible refine Kd.C_alloc ?_ _)|(with_reducible refine Kd.C_drewN ?_ _)|(with_reducible refine Kd.C_drew ?_)));(case side2=>exact (Kd.Qf HO_5.out).2.1);(case side3=>repeat (first|exact (Kd.Qf HO123.out).2.2|(with_reducible refine Kd.C_alloc ?_ _)|(with_reducible refine Kd.C_drewN ?_ _)|(with_reducible refine Kd.C_drew ?_)));(case side4=>rw [show y129.length=y121.length from (Kd.Qf HO123.out).1.symm];exact (Kd.Qf HO123.out).2.1);rintro e w64 ⟨rfl,hb⟩;refine ⟨_,rfl,?_⟩;have n0_:=aM (Kd.R_below (by (with_reducible repeat (first|apply Kd.Qe|apply Kd.Qd|apply Kd.R_drew));exact HO_5.out) hb);have n1_:=aM (Kd.R_below (by (with_reducible repeat (first|apply Kd.Qe|apply Kd.Qd|apply Kd.R_drew));exact HO_6.out) hb);have n2_:=aM (Kd.R_below (by (with_reducible repeat (first|apply Kd.Qe|apply Kd.Qd|apply Kd.R_drew));exact HO123.out) hb);have n3_:=aM (below_step (by repeat (first|(with_reducible first|exact HB.out|apply Qc|apply Qa|apply Qb)|exact HB.out)) hb);clear HO_5;clear HO_6;clear HO123;clear HB;have HO_5:=n0_;have HO_6:=n1_;have HO123:=n2_;have HB:=n3_;clear n0_ n1_ n2_ n3_;(try clear hb);(try clear hb2);(try clear hk);(try clear hi))|((with_reducible refine Qh (f:=53) rfl ?_);refine goesL_ (some 146) rfl rfl Try.func53 (by kernel_rfl) rfl #[.slice (some ⟨go39,0,none⟩) y129.length co59,.slice Ao10 t102.length co10] rfl (by (try simp only [aD,aE,aF]);first|done|(rw [show y129.length=y121.length from (Kd.Qf HO123.out).1.symm] <;> rfl)|rfl|(simp only [aG,aH];rfl)) ?_;(with_reducible refine (impl_MovesNeeded.calls kj18 _ _ y129 _ _ t102 t132 true _ ?side1 ?side2 ?side3 ?side4 A42.out).mono ?_);(case side1=>repeat (first|exact (Kd.Qf HO123.out).2.2|(with_reducible refine Kd.C_alloc ?_ _)|(with_reducible refine Kd.C_drewN ?_ _)|(with_reducible refine Kd.C_drew ?_)));(case side2=>rw [show y129.length=y121.length from (Kd.Qf HO123.out).1.symm];exact (Kd.Qf HO123.out).2.1);(case side3=>repeat (first|exact (Kd.Qf HO_6.out).2.2|(with_reducible refine Kd.C_alloc ?_ _)|(with_reducible refine Kd.C_drewN ?_ _)|(with_reducible refine Kd.C_drew ?_)));(case side4=>exact (Kd.Qf HO_6.out).2.1);rintro e w65 ⟨rfl,hb⟩;refine ⟨_,rfl,?_⟩;have n0_:=aM (Kd.R_below (by (with_reducible repeat (first|apply Kd.Qe|apply Kd.Qd|apply Kd.R_drew));exact HO_5.out) hb);have n1_:=aM (Kd.R_below (by (with_reducible repeat (first|apply Kd.Qe|apply Kd.Qd|apply Kd.R_drew));exact HO_6.out) hb);have n2_:=aM (Kd.R_below (by (with_reducible repeat (first|apply Kd.Qe|apply Kd.Qd|apply Kd.R_drew));exact HO123.out) hb);have n3_:=aM (below_step (by repeat (first|(with_reducible first|exact HB.out|apply Qc|apply Qa|apply Qb)|exact HB.out)) hb);clear HO_5;clear HO_6;clear HO123;clear HB;have HO_5:=n0_;have HO_6:=n1_;have HO123:=n2_;have HB:=n3_;clear n0_ n1_ n2_ n3_;(try clear hb);(try clear hb2);(try clear hk);(try clear hi)))
                    go_ret
                    exact ⟨by first|rfl|(simp [errW_none,errW_some] <;> rfl)|(simp only [←hji33,←hji36];first|rfl|(simp [errW_none,errW_some] <;> rfl))|(simp [*,errW_none,errW_some] <;> rfl),by repeat (first|(with_reducible first|exact HB.out|apply Qc|apply Qa|apply Qb)|exact HB.out)⟩
                 ·replace c44:=Bool.eq_false_iff.mpr c44;subst c44;have H1:(some false)=some r:=by rw [if_neg (show ¬ (false=true) by decide)] at H;exact H
                  clear H;have H:=H1;clear H1
                  as_aux_lemma=>
                   obtain rfl:=Option.some.inj H;go_wp2_with (first|((with_reducible refine gate_dst (N:=108) rfl ?_);refine Kd.R_lit (Kd.int .i64) _ 3 ?hg (N:=108) ?hd (xs:=([]:List Int)) (inner:=[]) (ok:=fun _=>True) (okp:=fun _=>True) ?hr ?hp (fun _ hk=>hk) trivial (Below.refl _ _) (Nat.le_refl _) (by simp) ?_;(case hd=>rfl);(case hg=>rfl);(case hr=>first|(go_simp;done)|(go_simp;rfl));(case hp=>exact (Reps.none _ _));intro v119 w66 ho67 hb hg_ hnew_;clear hg_ hnew_;(first|rw [←Ny118.out] at ho67|(simp only [Int.reduceToNat] at ho67;rw [←Ny118.out] at ho67));have n0_:=aM (Kd.R_elder' (by (with_reducible repeat (first|apply Kd.Qe|apply Kd.Qd|apply Kd.R_drew));exact HO_5.out) (Kd.R_base ho67) hb);have n1_:=aM (Kd.R_elder' (by (with_reducible repeat (first|apply Kd.Qe|apply Kd.Qd|apply Kd.R_drew));exact HO_6.out) (Kd.R_base ho67) hb);have n2_:=aM (Kd.R_lower (Kd.R_new' (Kd.R_new' ho67 (Kd.R_lt (by (with_reducible repeat (first|apply Kd.Qe|apply Kd.Qd|apply Kd.R_drew));exact HO_5.out))) (Kd.R_lt (by (with_reducible repeat (first|apply Kd.Qe|apply Kd.Qd|apply Kd.R_drew));exact HO_6.out))) (below_size (by repeat (first|(with_reducible first|exact HB.out|apply Qc|apply Qa|apply Qb)|exact HB.out))));have n3_:=aM (below_step (by repeat (first|(with_reducible first|exact HB.out|apply Qc|apply Qa|apply Qb)|exact HB.out)) hb);clear HO_5;clear HO_6;clear HB;have HO_5:=n0_;have HO_6:=n1_;have HO120:=n2_;have HB:=n3_;clear n0_ n1_ n2_ n3_;clear hb ho67)|((with_reducible refine gate_builtin (b:= .append) (xs:=#[.tmp 108,.tmp 109]) rfl ?_);at_builtin;refine Kd.R_append_rows (Kd.int .i64) (w0:=w) w.heap.size rfl (.tmp 108) (.tmp 109) 34 3 (.int .i64 0) 8 rfl Try.underlying34 info3 rfl (by decide) (by omega) v119 y118 t101 _ _ _ (fun k_=>some k_≠(.slice Ao9 t101.length co9:Value).ownBlock∧some k_≠(.slice Ao10 t102.length co10:Value).ownBlock) (fun _=>False) rfl rfl ?aO ?aR (fun _ _ h=>h) (fun _ h=>h.elim) ?aF ?aB ?aS ?aL ?_;(case aR=>repeat (first|exact (Kd.Qf HO_5.out).2.2|(with_reducible refine Kd.C_alloc ?_ _)|(with_reducible refine Kd.C_drewN ?_ _)|(with_reducible refine Kd.C_drew ?_)));(case aB=>exact (by repeat (first|(with_reducible first|exact HB.out|apply Qc|apply Qa|apply Qb)|exact HB.out)));(case aF=>exact (fun k_ hk=>⟨Kd.fresh' (Kd.R_lt (by (with_reducible repeat (first|apply Kd.Qe|apply Kd.Qd|apply Kd.R_drew));exact HO_5.out)) k_ hk,Kd.fresh' (Kd.R_lt (by (with_reducible repeat (first|apply Kd.Qe|apply Kd.Qd|apply Kd.R_drew));exact HO_6.out)) k_ hk⟩));(case aO=>exact (by (with_reducible repeat (first|apply Kd.Qe|apply Kd.Qd|apply Kd.R_drew));exact Kd.R_mono HO120.out (fun _ hk=>⟨hk.1.2,hk.2⟩)));(case aS=>exact (below_size (by repeat (first|(with_reducible first|exact HB.out|apply Qc|apply Qa|apply Qb)|exact HB.out))));(case aL=>have:=LMc29.out;omega);intro v122 w68 ho hb hg hat;rw [←Ny121.out] at ho;have n0_:=aM (Kd.R_after (ok:=(fun k_=>some k_≠(.slice Ao10 t102.length co10:Value).ownBlock)) (by (with_reducible repeat (first|apply Kd.Qe|apply Kd.Qd|apply Kd.R_drew));exact HO_5.out) hg hat);have n1_:=aM (Kd.R_after (ok:=(fun k_=>some k_≠(.slice Ao9 t101.length co9:Value).ownBlock)) (by (with_reducible repeat (first|apply Kd.Qe|apply Kd.Qd|apply Kd.R_drew));exact HO_6.out) hg hat);have n2_:=aM (hb);have n3_:=aM (ho);clear HO_5;clear HO_6;clear HB;clear HO120;have HO_5:=n0_;have HO_6:=n1_;have HB:=n2_;have HO123:=n3_;clear n0_ n1_ n2_ n3_;clear ho hb hg hat)|((with_reducible refine Qh (f:=32) rfl ?_);refine goesL_ (some 112) rfl rfl Try.func32 (by kernel_rfl) rfl #[.slice A1 l1.length c1] rfl (by (try simp only [aD,aE,aF]);first|done|rfl|(simp only [aG,aH];rfl)) ?_;(with_reducible refine (laws_numberOf.calls kj18 _ _ l1 t124 _ ?side1 ?side2 A30.out).mono ?_);(case side1=>repeat (first|exact (Kd.C_below HR1.out HB.out)|(with_reducible refine Kd.C_alloc ?_ _)|(with_reducible refine Kd.C_drewN ?_ _)|(with_reducible refine Kd.C_drew ?_)));(case side2=>exact HC1.out);rintro e w' ⟨rfl,⟨nd,rfl⟩⟩;refine ⟨_,rfl,?_⟩;(try (rw [drewN_self w68];generalize hq_:World.drewN w68 _=w68;have n0_:Aside0 (Kd.R (Kd.int .i64) 3 w68 w.heap.size (fun k_=>(some k_≠(.slice Ao9 t101.length co9:Value).ownBlock∧some k_≠(.slice Ao10 t102.length co10:Value).ownBlock)) v122 y121):=⟨by rw [←hq_];exact (by (with_reducible repeat (first|apply Kd.Qe|apply Kd.Qd|apply Kd.R_drew));exact HO123.out)⟩;have n1_:Aside0 (Kd.R (Kd.int .i64) 3 w68 w.heap.size (fun k_=>(some k_≠(.slice Ao10 t102.length co10:Value).ownBlock∧some k_≠(v122:Value).ownBlock)) (.slice Ao9 t101.length co9) t101):=⟨by rw [←hq_];exact (by (with_reducible repeat (first|apply Kd.Qe|apply Kd.Qd|apply Kd.R_drew));exact HO_5.out)⟩;have n2_:Aside0 (Kd.R (Kd.int .i64) 3 w68 w.heap.size (fun k_=>(some k_≠(.slice Ao9 t101.length co9:Value).ownBlock∧some k_≠(v122:Value).ownBlock)) (.slice Ao10 t102.length co10) t102):=⟨by rw [←hq_];exact (by (with_reducible repeat (first|apply Kd.Qe|apply Kd.Qd|apply Kd.R_drew));exact HO_6.out)⟩;have n3_:Aside0 (Below w.heap.size w w68):=⟨by rw [←hq_];exact (by repeat (first|(with_reducible first|exact HB.out|apply Qc|apply Qa|apply Qb)|exact HB.out))⟩;clear HO123 HO_5 HO_6 HB hq_;have HO123:=n0_;have HO_5:=n1_;have HO_6:=n2_;have HB:=n3_;clear n0_ n1_ n2_ n3_));obtain ⟨Ao69,co69,eo69⟩:=Kd.R_slice HO123.out;subst eo69)|((with_reducible refine Qh (f:=32) rfl ?_);refine goesL_ (some 117) rfl rfl Try.func32 (by kernel_rfl) rfl #[.slice A1 l1.length c1] rfl (by (try simp only [aD,aE,aF]);first|done|rfl|(simp only [aG,aH];rfl)) ?_;(with_reducible refine (laws_numberOf.calls kj18 _ _ l1 t125 _ ?side1 ?side2 A32.out).mono ?_);(case side1=>repeat (first|exact (Kd.C_below HR1.out HB.out)|(with_reducible refine Kd.C_alloc ?_ _)|(with_reducible refine Kd.C_drewN ?_ _)|(with_reducible refine Kd.C_drew ?_)));(case side2=>exact HC1.out);rintro e w' ⟨rfl,⟨nd,rfl⟩⟩;refine ⟨_,rfl,?_⟩;(try (rw [drewN_self w68];generalize hq_:World.drewN w68 _=w68;have n0_:Aside0 (Kd.R (Kd.int .i64) 3 w68 w.heap.size (fun k_=>(some k_≠(.slice Ao9 t101.length co9:Value).ownBlock∧some k_≠(.slice Ao10 t102.length co10:Value).ownBlock)) (.slice Ao69 y121.length co69) y121):=⟨by rw [←hq_];exact (by (with_reducible repeat (first|apply Kd.Qe|apply Kd.Qd|apply Kd.R_drew));exact HO123.out)⟩;have n1_:Aside0 (Kd.R (Kd.int .i64) 3 w68 w.heap.size (fun k_=>(some k_≠(.slice Ao10 t102.length co10:Value).ownBlock∧some k_≠(.slice Ao69 y121.length co69:Value).ownBlock)) (.slice Ao9 t101.length co9) t101):=⟨by rw [←hq_];exact (by (with_reducible repeat (first|apply Kd.Qe|apply Kd.Qd|apply Kd.R_drew));exact HO_5.out)⟩;have n2_:Aside0 (Kd.R (Kd.int .i64) 3 w68 w.heap.size (fun k_=>(some k_≠(.slice Ao9 t101.length co9:Value).ownBlock∧some k_≠(.slice Ao69 y121.length co69:Value).ownBlock)) (.slice Ao10 t102.length co10) t102):=⟨by rw [←hq_];exact (by (with_reducible repeat (first|apply Kd.Qe|apply Kd.Qd|apply Kd.R_drew));exact HO_6.out)⟩;have n3_:Aside0 (Below w.heap.size w w68):=⟨by rw [←hq_];exact (by repeat (first|(with_reducible first|exact HB.out|apply Qc|apply Qa|apply Qb)|exact HB.out))⟩;clear HO123 HO_5 HO_6 HB hq_;have HO123:=n0_;have HO_5:=n1_;have HO_6:=n2_;have HB:=n3_;clear n0_ n1_ n2_ n3_));have p126:0≤((ji33):Int):=of_decide_eq_true (by first|(with_reducible assumption)|assumption);have q126:(ji33)<(y121.length:Int):=of_decide_eq_true (by first|(with_reducible assumption)|assumption);obtain ⟨ad126,e126,hx126_0⟩:=Kd.at_int (Kd.Qf HO123.out).2.2 (ji33) p126 q126;cases e126;replace p126:=eq_true p126;replace q126:=eq_true q126;have p127:0≤((ji36):Int):=of_decide_eq_true (by first|(with_reducible assumption)|assumption);have q127:(ji36)<(y121.length:Int):=of_decide_eq_true (by first|(with_reducible assumption)|assumption);obtain ⟨ad127,e127,hx127_0⟩:=Kd.at_int (Kd.Qf HO123.out).2.2 (ji36) p127 q127;obtain rfl:ad126=ad127:=(by injection e127);replace p127:=eq_true p127;replace q127:=eq_true q127;have p39:0≤((ji33):Int):=of_decide_eq_true (by first|(with_reducible assumption)|assumption);have q39:((ji33):Int)<((y121.length:Int):Int):=of_decide_eq_true (by first|(with_reducible assumption)|assumption);obtain ⟨go39,co39,eo39,gb39,gl39,cl39,HG39⟩:=Kd.R_form HO123.out (by omega);(first|cases eo39|(injection eo39 with ea_ en_ ec_;(first|subst ea_|(injection ea_ with ea_;subst ea_));subst ec_;clear en_));have GB39:=aM gb39;have GG39:=aM HG39;clear gb39 gl39 HG39;(first|simp only [add_plain] at hx126_0|skip);(first|simp only [add_plain] at hx127_0|skip);obtain ⟨hx39_0,hf39_0⟩:=Kd.R_celln 0 HO123.out ((ji33):Int) p39 q39;replace p39:=eq_true p39;replace q39:=eq_true q39;obtain ⟨hy70_,hz70_⟩:=Kd.R_celln 0 HO123.out ((ji33):Int) (of_decide_eq_true (by first|(with_reducible assumption)|assumption)) (of_decide_eq_true (by first|(with_reducible assumption)|assumption));have HP70:=Kd.R_putg HO123.out ((ji33):Int) (rd y121 (ji36)))|((with_reducible refine gate_store (t:=3) (p:=132) rfl ?_);refine store_event (t:=3) (p:=132) (v:=?vo_w71) (w1:=(w68.setCell ⟨go39,((ji33):Int).toNat,none⟩ (.int .i64 (rd y121 (ji36))))) ?hg ?ho ?hn ?hr ?_;(case ho=>rfl);(case hg=>rfl);(case hn=>rfl);(case hr=>first|(go_simp;done)|(go_simp;rfl));intro w71 hw;have hg:w68.grownBy w71 (some go39):=(by rw [hw];exact HP70.2);have hp_:Kd.R (Kd.int .i64) 3 w71 w.heap.size (fun k_=>some k_≠(.slice Ao9 t101.length co9:Value).ownBlock∧some k_≠(.slice Ao10 t102.length co10:Value).ownBlock) (.slice (some ⟨go39,0,none⟩) y121.length co69) y128:=(by rw [hw,Ny128.out];exact HP70.1);clear HP70;have n0_:=aM (Kd.R_after (v:=(.slice (some ⟨go39,0,none⟩) y121.length co69)) (v1:=(.slice (some ⟨go39,0,none⟩) y121.length co69)) (ok:=(fun k_=>some k_≠(.slice Ao10 t102.length co10:Value).ownBlock)) (by (with_reducible repeat (first|apply Kd.Qe|apply Kd.Qd|apply Kd.R_drew));exact HO_5.out) hg (.inl rfl));have n1_:=aM (Kd.R_after (v:=(.slice (some ⟨go39,0,none⟩) y121.length co69)) (v1:=(.slice (some ⟨go39,0,none⟩) y121.length co69)) (ok:=(fun k_=>some k_≠(.slice Ao9 t101.length co9:Value).ownBlock)) (by (with_reducible repeat (first|apply Kd.Qe|apply Kd.Qd|apply Kd.R_drew));exact HO_6.out) hg (.inl rfl));have n2_:=aM (hp_);have n3_:=aM ((by rw [hw];exact Qg (HB.out) GB39.out:Below w.heap.size w w71));clear HO_5;clear HO_6;clear HO123;clear HB;have HO_5:=n0_;have HO_6:=n1_;have HO123:=n2_;have HB:=n3_;clear n0_ n1_ n2_ n3_;clear hg hw hp_;have p40:0≤((ji36):Int):=of_decide_eq_true (by first|(with_reducible assumption)|assumption);have q40:((ji36):Int)<((y121.length:Int):Int):=of_decide_eq_true (by first|(with_reducible assumption)|assumption);obtain ⟨hx40_0,hf40_0⟩:=Kd.R_celln 0 HO123.out ((ji36):Int) p40 q40;replace p40:=eq_true p40;replace q40:=eq_true q40;obtain ⟨hy72_,hz72_⟩:=Kd.R_celln 0 HO123.out ((ji36):Int) (of_decide_eq_true (by first|(with_reducible assumption)|assumption)) (of_decide_eq_true (by first|(with_reducible assumption)|assumption));have HP72:=Kd.R_putg HO123.out ((ji36):Int) (rd y121 (ji33)))|((with_reducible refine gate_store (t:=3) (p:=136) rfl ?_);refine store_event (t:=3) (p:=136) (v:=?vo_w73) (w1:=(w71.setCell ⟨go39,((ji36):Int).toNat,none⟩ (.int .i64 (rd y121 (ji33))))) ?hg ?ho ?hn ?hr ?_;(case ho=>rfl);(case hg=>rfl);(case hn=>rfl);(case hr=>first|(go_simp;done)|(go_simp;rfl));intro w73 hw;have hg:w71.grownBy w73 (some go39):=(by rw [hw];exact HP72.2);have hp_:Kd.R (Kd.int .i64) 3 w73 w.heap.size (fun k_=>some k_≠(.slice Ao9 t101.length co9:Value).ownBlock∧some k_≠(.slice Ao10 t102.length co10:Value).ownBlock) (.slice (some ⟨go39,0,none⟩) y121.length co69) y129:=(by rw [hw,Ny129.out];exact HP72.1);clear HP72;have n0_:=aM (Kd.R_after (v:=(.slice (some ⟨go39,0,none⟩) y121.length co69)) (v1:=(.slice (some ⟨go39,0,none⟩) y121.length co69)) (ok:=(fun k_=>some k_≠(.slice Ao10 t102.length co10:Value).ownBlock)) (by (with_reducible repeat (first|apply Kd.Qe|apply Kd.Qd|apply Kd.R_drew));exact HO_5.out) hg (.inl rfl));have n1_:=aM (Kd.R_after (v:=(.slice (some ⟨go39,0,none⟩) y121.length co69)) (v1:=(.slice (some ⟨go39,0,none⟩) y121.length co69)) (ok:=(fun k_=>some k_≠(.slice Ao9 t101.length co9:Value).ownBlock)) (by (with_reducible repeat (first|apply Kd.Qe|apply Kd.Qd|apply Kd.R_drew));exact HO_6.out) hg (.inl rfl));have n2_:=aM (hp_);have n3_:=aM ((by rw [hw];exact Qg (HB.out) GB39.out:Below w.heap.size w w73));clear HO_5;clear HO_6;clear HO123;clear HB;have HO_5:=n0_;have HO_6:=n1_;have HO123:=n2_;have HB:=n3_;clear n0_ n1_ n2_ n3_;clear hg hw hp_)|((with_reducible refine Qh (f:=53) rfl ?_);refine goesL_ (some 140) rfl rfl Try.func53 (by kernel_rfl) rfl #[.slice Ao9 t101.length co9,.slice (some ⟨go39,0,none⟩) y129.length co69] rfl (by (try simp only [aD,aE,aF]);first|done|(rw [show y129.length=y121.length from (Kd.Qf HO123.out).1.symm] <;> rfl)|rfl|(simp only [aG,aH];rfl)) ?_;(with_reducible refine (impl_MovesNeeded.calls kj18 _ _ t101 _ _ y129 t130 true _ ?side1 ?side2 ?side3 ?side4 A41.out).mono ?_);(case side1=>repeat (first|exact (Kd.Qf HO_5.out).2.2|(with_reducible refine Kd.C_alloc ?_ _)|(with_reducible refine Kd.C_drewN ?_ _)|(with_reducible refine Kd.C_drew ?_)));(case side2=>exact (Kd.Qf HO_5.out).2.1);(case side3=>repeat (first|exact (Kd.Qf HO123.out).2.2|(with_reducible refine Kd.C_alloc ?_ _)|(with_reducible refine Kd.C_drewN ?_ _)|(with_reducible refine Kd.C_drew ?_)));(case side4=>rw [show y129.length=y121.length from (Kd.Qf HO123.out).1.symm];exact (Kd.Qf HO123.out).2.1);rintro e w74 ⟨rfl,hb⟩;refine ⟨_,rfl,?_⟩;have n0_:=aM (Kd.R_below (by (with_reducible repeat (first|apply Kd.Qe|apply Kd.Qd|apply Kd.R_drew));exact HO_5.out) hb);have n1_:=aM (Kd.R_below (by (with_reducible repeat (first|apply Kd.Qe|apply Kd.Qd|apply Kd.R_drew));exact HO_6.out) hb);have n2_:=aM (Kd.R_below (by (with_reducible repeat (first|apply Kd.Qe|apply Kd.Qd|apply Kd.R_drew));exact HO123.out) hb);have n3_:=aM (below_step (by repeat (first|(with_reducible first|exact HB.out|apply Qc|apply Qa|apply Qb)|exact HB.out)) hb);clear HO_5;clear HO_6;clear HO123;clear HB;have HO_5:=n0_;have HO_6:=n1_;have HO123:=n2_;have HB:=n3_;clear n0_ n1_ n2_ n3_;(try clear hb);(try clear hb2);(try clear hk);(try clear hi))|((with_reducible refine Qh (f:=53) rfl ?_);refine goesL_ (some 146) rfl rfl Try.func53 (by kernel_rfl) rfl #[.slice (some ⟨go39,0,none⟩) y129.length co69,.slice Ao10 t102.length co10] rfl (by (try simp only [aD,aE,aF]);first|done|(rw [show y129.length=y121.length from (Kd.Qf HO123.out).1.symm] <;> rfl)|rfl|(simp only [aG,aH];rfl)) ?_;(with_reducible refine (impl_MovesNeeded.calls kj18 _ _ y129 _ _ t102 t132 false _ ?side1 ?side2 ?side3 ?side4 A42.out).mono ?_);(case side1=>repeat (first|exact (Kd.Qf HO123.out).2.2|(with_reducible refine Kd.C_alloc ?_ _)|(with_reducible refine Kd.C_drewN ?_ _)|(with_reducible refine Kd.C_drew ?_)));(case side2=>rw [show y129.length=y121.length from (Kd.Qf HO123.out).1.symm];exact (Kd.Qf HO123.out).2.1);(case side3=>repeat (first|exact (Kd.Qf HO_6.out).2.2|(with_reducible refine Kd.C_alloc ?_ _)|(with_reducible refine Kd.C_drewN ?_ _)|(with_reducible refine Kd.C_drew ?_)));(case side4=>exact (Kd.Qf HO_6.out).2.1);rintro e w75 ⟨rfl,hb⟩;refine ⟨_,rfl,?_⟩;have n0_:=aM (Kd.R_below (by (with_reducible repeat (first|apply Kd.Qe|apply Kd.Qd|apply Kd.R_drew));exact HO_5.out) hb);have n1_:=aM (Kd.R_below (by (with_reducible repeat (first|apply Kd.Qe|apply Kd.Qd|apply Kd.R_drew));exact HO_6.out) hb);have n2_:=aM (Kd.R_below (by (with_reducible repeat (first|apply Kd.Qe|apply Kd.Qd|apply Kd.R_drew));exact HO123.out) hb);have n3_:=aM (below_step (by repeat (first|(with_reducible first|exact HB.out|apply Qc|apply Qa|apply Qb)|exact HB.out)) hb);clear HO_5;clear HO_6;clear HO123;clear HB;have HO_5:=n0_;have HO_6:=n1_;have HO123:=n2_;have HB:=n3_;clear n0_ n1_ n2_ n3_;(try clear hb);(try clear hb2);(try clear hk);(try clear hi)))
                   go_ret
                   exact ⟨by first|rfl|(simp [errW_none,errW_some] <;> rfl)|(simp only [←hji33,←hji36];first|rfl|(simp [errW_none,errW_some] <;> rfl))|(simp [*,errW_none,errW_some] <;> rfl),by repeat (first|(with_reducible first|exact HB.out|apply Qc|apply Qa|apply Qb)|exact HB.out)⟩
                ·replace c43:=Bool.eq_false_iff.mpr c43;subst c43;have H1:(some false)=some r:=by rw [if_neg (show ¬ (false=true) by decide)] at H;exact H
                 clear H;have H:=H1;clear H1
                 as_aux_lemma=>
                  obtain rfl:=Option.some.inj H;go_wp2_with (first|((with_reducible refine gate_dst (N:=108) rfl ?_);refine Kd.R_lit (Kd.int .i64) _ 3 ?hg (N:=108) ?hd (xs:=([]:List Int)) (inner:=[]) (ok:=fun _=>True) (okp:=fun _=>True) ?hr ?hp (fun _ hk=>hk) trivial (Below.refl _ _) (Nat.le_refl _) (by simp) ?_;(case hd=>rfl);(case hg=>rfl);(case hr=>first|(go_simp;done)|(go_simp;rfl));(case hp=>exact (Reps.none _ _));intro v119 w76 ho77 hb hg_ hnew_;clear hg_ hnew_;(first|rw [←Ny118.out] at ho77|(simp only [Int.reduceToNat] at ho77;rw [←Ny118.out] at ho77));have n0_:=aM (Kd.R_elder' (by (with_reducible repeat (first|apply Kd.Qe|apply Kd.Qd|apply Kd.R_drew));exact HO_5.out) (Kd.R_base ho77) hb);have n1_:=aM (Kd.R_elder' (by (with_reducible repeat (first|apply Kd.Qe|apply Kd.Qd|apply Kd.R_drew));exact HO_6.out) (Kd.R_base ho77) hb);have n2_:=aM (Kd.R_lower (Kd.R_new' (Kd.R_new' ho77 (Kd.R_lt (by (with_reducible repeat (first|apply Kd.Qe|apply Kd.Qd|apply Kd.R_drew));exact HO_5.out))) (Kd.R_lt (by (with_reducible repeat (first|apply Kd.Qe|apply Kd.Qd|apply Kd.R_drew));exact HO_6.out))) (below_size (by repeat (first|(with_reducible first|exact HB.out|apply Qc|apply Qa|apply Qb)|exact HB.out))));have n3_:=aM (below_step (by repeat (first|(with_reducible first|exact HB.out|apply Qc|apply Qa|apply Qb)|exact HB.out)) hb);clear HO_5;clear HO_6;clear HB;have HO_5:=n0_;have HO_6:=n1_;have HO120:=n2_;have HB:=n3_;clear n0_ n1_ n2_ n3_;clear hb ho77)|((with_reducible refine gate_builtin (b:= .append) (xs:=#[.tmp 108,.tmp 109]) rfl ?_);at_builtin;refine Kd.R_append_rows (Kd.int .i64) (w0:=w) w.heap.size rfl (.tmp 108) (.tmp 109) 34 3 (.int .i64 0) 8 rfl Try.underlying34 info3 rfl (by decide) (by omega) v119 y118 t101 _ _ _ (fun k_=>some k_≠(.slice Ao9 t101.length co9:Value).ownBlock∧some k_≠(.slice Ao10 t102.length co10:Value).ownBlock) (fun _=>False) rfl rfl ?aO ?aR (fun _ _ h=>h) (fun _ h=>h.elim) ?aF ?aB ?aS ?aL ?_;(case aR=>repeat (first|exact (Kd.Qf HO_5.out).2.2|(with_reducible refine Kd.C_alloc ?_ _)|(with_reducible refine Kd.C_drewN ?_ _)|(with_reducible refine Kd.C_drew ?_)));(case aB=>exact (by repeat (first|(with_reducible first|exact HB.out|apply Qc|apply Qa|apply Qb)|exact HB.out)));(case aF=>exact (fun k_ hk=>⟨Kd.fresh' (Kd.R_lt (by (with_reducible repeat (first|apply Kd.Qe|apply Kd.Qd|apply Kd.R_drew));exact HO_5.out)) k_ hk,Kd.fresh' (Kd.R_lt (by (with_reducible repeat (first|apply Kd.Qe|apply Kd.Qd|apply Kd.R_drew));exact HO_6.out)) k_ hk⟩));(case aO=>exact (by (with_reducible repeat (first|apply Kd.Qe|apply Kd.Qd|apply Kd.R_drew));exact Kd.R_mono HO120.out (fun _ hk=>⟨hk.1.2,hk.2⟩)));(case aS=>exact (below_size (by repeat (first|(with_reducible first|exact HB.out|apply Qc|apply Qa|apply Qb)|exact HB.out))));(case aL=>have:=LMc29.out;omega);intro v122 w78 ho hb hg hat;rw [←Ny121.out] at ho;have n0_:=aM (Kd.R_after (ok:=(fun k_=>some k_≠(.slice Ao10 t102.length co10:Value).ownBlock)) (by (with_reducible repeat (first|apply Kd.Qe|apply Kd.Qd|apply Kd.R_drew));exact HO_5.out) hg hat);have n1_:=aM (Kd.R_after (ok:=(fun k_=>some k_≠(.slice Ao9 t101.length co9:Value).ownBlock)) (by (with_reducible repeat (first|apply Kd.Qe|apply Kd.Qd|apply Kd.R_drew));exact HO_6.out) hg hat);have n2_:=aM (hb);have n3_:=aM (ho);clear HO_5;clear HO_6;clear HB;clear HO120;have HO_5:=n0_;have HO_6:=n1_;have HB:=n2_;have HO123:=n3_;clear n0_ n1_ n2_ n3_;clear ho hb hg hat)|((with_reducible refine Qh (f:=32) rfl ?_);refine goesL_ (some 112) rfl rfl Try.func32 (by kernel_rfl) rfl #[.slice A1 l1.length c1] rfl (by (try simp only [aD,aE,aF]);first|done|rfl|(simp only [aG,aH];rfl)) ?_;(with_reducible refine (laws_numberOf.calls kj18 _ _ l1 t124 _ ?side1 ?side2 A30.out).mono ?_);(case side1=>repeat (first|exact (Kd.C_below HR1.out HB.out)|(with_reducible refine Kd.C_alloc ?_ _)|(with_reducible refine Kd.C_drewN ?_ _)|(with_reducible refine Kd.C_drew ?_)));(case side2=>exact HC1.out);rintro e w' ⟨rfl,⟨nd,rfl⟩⟩;refine ⟨_,rfl,?_⟩;(try (rw [drewN_self w78];generalize hq_:World.drewN w78 _=w78;have n0_:Aside0 (Kd.R (Kd.int .i64) 3 w78 w.heap.size (fun k_=>(some k_≠(.slice Ao9 t101.length co9:Value).ownBlock∧some k_≠(.slice Ao10 t102.length co10:Value).ownBlock)) v122 y121):=⟨by rw [←hq_];exact (by (with_reducible repeat (first|apply Kd.Qe|apply Kd.Qd|apply Kd.R_drew));exact HO123.out)⟩;have n1_:Aside0 (Kd.R (Kd.int .i64) 3 w78 w.heap.size (fun k_=>(some k_≠(.slice Ao10 t102.length co10:Value).ownBlock∧some k_≠(v122:Value).ownBlock)) (.slice Ao9 t101.length co9) t101):=⟨by rw [←hq_];exact (by (with_reducible repeat (first|apply Kd.Qe|apply Kd.Qd|apply Kd.R_drew));exact HO_5.out)⟩;have n2_:Aside0 (Kd.R (Kd.int .i64) 3 w78 w.heap.size (fun k_=>(some k_≠(.slice Ao9 t101.length co9:Value).ownBlock∧some k_≠(v122:Value).ownBlock)) (.slice Ao10 t102.length co10) t102):=⟨by rw [←hq_];exact (by (with_reducible repeat (first|apply Kd.Qe|apply Kd.Qd|apply Kd.R_drew));exact HO_6.out)⟩;have n3_:Aside0 (Below w.heap.size w w78):=⟨by rw [←hq_];exact (by repeat (first|(with_reducible first|exact HB.out|apply Qc|apply Qa|apply Qb)|exact HB.out))⟩;clear HO123 HO_5 HO_6 HB hq_;have HO123:=n0_;have HO_5:=n1_;have HO_6:=n2_;have HB:=n3_;clear n0_ n1_ n2_ n3_));obtain ⟨Ao79,co79,eo79⟩:=Kd.R_slice HO123.out;subst eo79)|((with_reducible refine Qh (f:=32) rfl ?_);refine goesL_ (some 117) rfl rfl Try.func32 (by kernel_rfl) rfl #[.slice A1 l1.length c1] rfl (by (try simp only [aD,aE,aF]);first|done|rfl|(simp only [aG,aH];rfl)) ?_;(with_reducible refine (laws_numberOf.calls kj18 _ _ l1 t125 _ ?side1 ?side2 A32.out).mono ?_);(case side1=>repeat (first|exact (Kd.C_below HR1.out HB.out)|(with_reducible refine Kd.C_alloc ?_ _)|(with_reducible refine Kd.C_drewN ?_ _)|(with_reducible refine Kd.C_drew ?_)));(case side2=>exact HC1.out);rintro e w' ⟨rfl,⟨nd,rfl⟩⟩;refine ⟨_,rfl,?_⟩;(try (rw [drewN_self w78];generalize hq_:World.drewN w78 _=w78;have n0_:Aside0 (Kd.R (Kd.int .i64) 3 w78 w.heap.size (fun k_=>(some k_≠(.slice Ao9 t101.length co9:Value).ownBlock∧some k_≠(.slice Ao10 t102.length co10:Value).ownBlock)) (.slice Ao79 y121.length co79) y121):=⟨by rw [←hq_];exact (by (with_reducible repeat (first|apply Kd.Qe|apply Kd.Qd|apply Kd.R_drew));exact HO123.out)⟩;have n1_:Aside0 (Kd.R (Kd.int .i64) 3 w78 w.heap.size (fun k_=>(some k_≠(.slice Ao10 t102.length co10:Value).ownBlock∧some k_≠(.slice Ao79 y121.length co79:Value).ownBlock)) (.slice Ao9 t101.length co9) t101):=⟨by rw [←hq_];exact (by (with_reducible repeat (first|apply Kd.Qe|apply Kd.Qd|apply Kd.R_drew));exact HO_5.out)⟩;have n2_:Aside0 (Kd.R (Kd.int .i64) 3 w78 w.heap.size (fun k_=>(some k_≠(.slice Ao9 t101.length co9:Value).ownBlock∧some k_≠(.slice Ao79 y121.length co79:Value).ownBlock)) (.slice Ao10 t102.length co10) t102):=⟨by rw [←hq_];exact (by (with_reducible repeat (first|apply Kd.Qe|apply Kd.Qd|apply Kd.R_drew));exact HO_6.out)⟩;have n3_:Aside0 (Below w.heap.size w w78):=⟨by rw [←hq_];exact (by repeat (first|(with_reducible first|exact HB.out|apply Qc|apply Qa|apply Qb)|exact HB.out))⟩;clear HO123 HO_5 HO_6 HB hq_;have HO123:=n0_;have HO_5:=n1_;have HO_6:=n2_;have HB:=n3_;clear n0_ n1_ n2_ n3_));have p126:0≤((ji33):Int):=of_decide_eq_true (by first|(with_reducible assumption)|assumption);have q126:(ji33)<(y121.length:Int):=of_decide_eq_true (by first|(with_reducible assumption)|assumption);obtain ⟨ad126,e126,hx126_0⟩:=Kd.at_int (Kd.Qf HO123.out).2.2 (ji33) p126 q126;cases e126;replace p126:=eq_true p126;replace q126:=eq_true q126;have p127:0≤((ji36):Int):=of_decide_eq_true (by first|(with_reducible assumption)|assumption);have q127:(ji36)<(y121.length:Int):=of_decide_eq_true (by first|(with_reducible assumption)|assumption);obtain ⟨ad127,e127,hx127_0⟩:=Kd.at_int (Kd.Qf HO123.out).2.2 (ji36) p127 q127;obtain rfl:ad126=ad127:=(by injection e127);replace p127:=eq_true p127;replace q127:=eq_true q127;have p39:0≤((ji33):Int):=of_decide_eq_true (by first|(with_reducible assumption)|assumption);have q39:((ji33):Int)<((y121.length:Int):Int):=of_decide_eq_true (by first|(with_reducible assumption)|assumption);obtain ⟨go39,co39,eo39,gb39,gl39,cl39,HG39⟩:=Kd.R_form HO123.out (by omega);(first|cases eo39|(injection eo39 with ea_ en_ ec_;(first|subst ea_|(injection ea_ with ea_;subst ea_));subst ec_;clear en_));have GB39:=aM gb39;have GG39:=aM HG39;clear gb39 gl39 HG39;(first|simp only [add_plain] at hx126_0|skip);(first|simp only [add_plain] at hx127_0|skip);obtain ⟨hx39_0,hf39_0⟩:=Kd.R_celln 0 HO123.out ((ji33):Int) p39 q39;replace p39:=eq_true p39;replace q39:=eq_true q39;obtain ⟨hy80_,hz80_⟩:=Kd.R_celln 0 HO123.out ((ji33):Int) (of_decide_eq_true (by first|(with_reducible assumption)|assumption)) (of_decide_eq_true (by first|(with_reducible assumption)|assumption));have HP80:=Kd.R_putg HO123.out ((ji33):Int) (rd y121 (ji36)))|((with_reducible refine gate_store (t:=3) (p:=132) rfl ?_);refine store_event (t:=3) (p:=132) (v:=?vo_w81) (w1:=(w78.setCell ⟨go39,((ji33):Int).toNat,none⟩ (.int .i64 (rd y121 (ji36))))) ?hg ?ho ?hn ?hr ?_;(case ho=>rfl);(case hg=>rfl);(case hn=>rfl);(case hr=>first|(go_simp;done)|(go_simp;rfl));intro w81 hw;have hg:w78.grownBy w81 (some go39):=(by rw [hw];exact HP80.2);have hp_:Kd.R (Kd.int .i64) 3 w81 w.heap.size (fun k_=>some k_≠(.slice Ao9 t101.length co9:Value).ownBlock∧some k_≠(.slice Ao10 t102.length co10:Value).ownBlock) (.slice (some ⟨go39,0,none⟩) y121.length co79) y128:=(by rw [hw,Ny128.out];exact HP80.1);clear HP80;have n0_:=aM (Kd.R_after (v:=(.slice (some ⟨go39,0,none⟩) y121.length co79)) (v1:=(.slice (some ⟨go39,0,none⟩) y121.length co79)) (ok:=(fun k_=>some k_≠(.slice Ao10 t102.length co10:Value).ownBlock)) (by (with_reducible repeat (first|apply Kd.Qe|apply Kd.Qd|apply Kd.R_drew));exact HO_5.out) hg (.inl rfl));have n1_:=aM (Kd.R_after (v:=(.slice (some ⟨go39,0,none⟩) y121.length co79)) (v1:=(.slice (some ⟨go39,0,none⟩) y121.length co79)) (ok:=(fun k_=>some k_≠(.slice Ao9 t101.length co9:Value).ownBlock)) (by (with_reducible repeat (first|apply Kd.Qe|apply Kd.Qd|apply Kd.R_drew));exact HO_6.out) hg (.inl rfl));have n2_:=aM (hp_);have n3_:=aM ((by rw [hw];exact Qg (HB.out) GB39.out:Below w.heap.size w w81));clear HO_5;clear HO_6;clear HO123;clear HB;have HO_5:=n0_;have HO_6:=n1_;have HO123:=n2_;have HB:=n3_;clear n0_ n1_ n2_ n3_;clear hg hw hp_;have p40:0≤((ji36):Int):=of_decide_eq_true (by first|(with_reducible assumption)|assumption);have q40:((ji36):Int)<((y121.length:Int):Int):=of_decide_eq_true (by first|(with_reducible assumption)|assumption);obtain ⟨hx40_0,hf40_0⟩:=Kd.R_celln 0 HO123.out ((ji36):Int) p40 q40;replace p40:=eq_true p40;replace q40:=eq_true q40;obtain ⟨hy82_,hz82_⟩:=Kd.R_celln 0 HO123.out ((ji36):Int) (of_decide_eq_true (by first|(with_reducible assumption)|assumption)) (of_decide_eq_true (by first|(with_reducible assumption)|assumption));have HP82:=Kd.R_putg HO123.out ((ji36):Int) (rd y121 (ji33)))|((with_reducible refine gate_store (t:=3) (p:=136) rfl ?_);refine store_event (t:=3) (p:=136) (v:=?vo_w83) (w1:=(w81.setCell ⟨go39,((ji36):Int).toNat,none⟩ (.int .i64 (rd y121 (ji33))))) ?hg ?ho ?hn ?hr ?_;(case ho=>rfl);(case hg=>rfl);(case hn=>rfl);(case hr=>first|(go_simp;done)|(go_simp;rfl));intro w83 hw;have hg:w81.grownBy w83 (some go39):=(by rw [hw];exact HP82.2);have hp_:Kd.R (Kd.int .i64) 3 w83 w.heap.size (fun k_=>some k_≠(.slice Ao9 t101.length co9:Value).ownBlock∧some k_≠(.slice Ao10 t102.length co10:Value).ownBlock) (.slice (some ⟨go39,0,none⟩) y121.length co79) y129:=(by rw [hw,Ny129.out];exact HP82.1);clear HP82;have n0_:=aM (Kd.R_after (v:=(.slice (some ⟨go39,0,none⟩) y121.length co79)) (v1:=(.slice (some ⟨go39,0,none⟩) y121.length co79)) (ok:=(fun k_=>some k_≠(.slice Ao10 t102.length co10:Value).ownBlock)) (by (with_reducible repeat (first|apply Kd.Qe|apply Kd.Qd|apply Kd.R_drew));exact HO_5.out) hg (.inl rfl));have n1_:=aM (Kd.R_after (v:=(.slice (some ⟨go39,0,none⟩) y121.length co79)) (v1:=(.slice (some ⟨go39,0,none⟩) y121.length co79)) (ok:=(fun k_=>some k_≠(.slice Ao9 t101.length co9:Value).ownBlock)) (by (with_reducible repeat (first|apply Kd.Qe|apply Kd.Qd|apply Kd.R_drew));exact HO_6.out) hg (.inl rfl));have n2_:=aM (hp_);have n3_:=aM ((by rw [hw];exact Qg (HB.out) GB39.out:Below w.heap.size w w83));clear HO_5;clear HO_6;clear HO123;clear HB;have HO_5:=n0_;have HO_6:=n1_;have HO123:=n2_;have HB:=n3_;clear n0_ n1_ n2_ n3_;clear hg hw hp_)|((with_reducible refine Qh (f:=53) rfl ?_);refine goesL_ (some 140) rfl rfl Try.func53 (by kernel_rfl) rfl #[.slice Ao9 t101.length co9,.slice (some ⟨go39,0,none⟩) y129.length co79] rfl (by (try simp only [aD,aE,aF]);first|done|(rw [show y129.length=y121.length from (Kd.Qf HO123.out).1.symm] <;> rfl)|rfl|(simp only [aG,aH];rfl)) ?_;(with_reducible refine (impl_MovesNeeded.calls kj18 _ _ t101 _ _ y129 t130 false _ ?side1 ?side2 ?side3 ?side4 A41.out).mono ?_);(case side1=>repeat (first|exact (Kd.Qf HO_5.out).2.2|(with_reducible refine Kd.C_alloc ?_ _)|(with_reducible refine Kd.C_drewN ?_ _)|(with_reducible refine Kd.C_drew ?_)));(case side2=>exact (Kd.Qf HO_5.out).2.1);(case side3=>repeat (first|exact (Kd.Qf HO123.out).2.2|(with_reducible refine Kd.C_alloc ?_ _)|(with_reducible refine Kd.C_drewN ?_ _)|(with_reducible refine Kd.C_drew ?_)));(case side4=>rw [show y129.length=y121.length from (Kd.Qf HO123.out).1.symm];exact (Kd.Qf HO123.out).2.1);rintro e w84 ⟨rfl,hb⟩;refine ⟨_,rfl,?_⟩;have n0_:=aM (Kd.R_below (by (with_reducible repeat (first|apply Kd.Qe|apply Kd.Qd|apply Kd.R_drew));exact HO_5.out) hb);have n1_:=aM (Kd.R_below (by (with_reducible repeat (first|apply Kd.Qe|apply Kd.Qd|apply Kd.R_drew));exact HO_6.out) hb);have n2_:=aM (Kd.R_below (by (with_reducible repeat (first|apply Kd.Qe|apply Kd.Qd|apply Kd.R_drew));exact HO123.out) hb);have n3_:=aM (below_step (by repeat (first|(with_reducible first|exact HB.out|apply Qc|apply Qa|apply Qb)|exact HB.out)) hb);clear HO_5;clear HO_6;clear HO123;clear HB;have HO_5:=n0_;have HO_6:=n1_;have HO123:=n2_;have HB:=n3_;clear n0_ n1_ n2_ n3_;(try clear hb);(try clear hb2);(try clear hk);(try clear hi))|((with_reducible refine Qh (f:=53) rfl ?_);refine goesL_ (some 146) rfl rfl Try.func53 (by kernel_rfl) rfl #[.slice (some ⟨go39,0,none⟩) y129.length co79,.slice Ao10 t102.length co10] rfl (by (try simp only [aD,aE,aF]);first|done|(rw [show y129.length=y121.length from (Kd.Qf HO123.out).1.symm] <;> rfl)|rfl|(simp only [aG,aH];rfl)) ?_;(with_reducible refine (impl_MovesNeeded.calls kj18 _ _ y129 _ _ t102 t132 t133 _ ?side1 ?side2 ?side3 ?side4 A42.out).mono ?_);(case side1=>repeat (first|exact (Kd.Qf HO123.out).2.2|(with_reducible refine Kd.C_alloc ?_ _)|(with_reducible refine Kd.C_drewN ?_ _)|(with_reducible refine Kd.C_drew ?_)));(case side2=>rw [show y129.length=y121.length from (Kd.Qf HO123.out).1.symm];exact (Kd.Qf HO123.out).2.1);(case side3=>repeat (first|exact (Kd.Qf HO_6.out).2.2|(with_reducible refine Kd.C_alloc ?_ _)|(with_reducible refine Kd.C_drewN ?_ _)|(with_reducible refine Kd.C_drew ?_)));(case side4=>exact (Kd.Qf HO_6.out).2.1);rintro e w85 ⟨rfl,hb⟩;refine ⟨_,rfl,?_⟩;have n0_:=aM (Kd.R_below (by (with_reducible repeat (first|apply Kd.Qe|apply Kd.Qd|apply Kd.R_drew));exact HO_5.out) hb);have n1_:=aM (Kd.R_below (by (with_reducible repeat (first|apply Kd.Qe|apply Kd.Qd|apply Kd.R_drew));exact HO_6.out) hb);have n2_:=aM (Kd.R_below (by (with_reducible repeat (first|apply Kd.Qe|apply Kd.Qd|apply Kd.R_drew));exact HO123.out) hb);have n3_:=aM (below_step (by repeat (first|(with_reducible first|exact HB.out|apply Qc|apply Qa|apply Qb)|exact HB.out)) hb);clear HO_5;clear HO_6;clear HO123;clear HB;have HO_5:=n0_;have HO_6:=n1_;have HO123:=n2_;have HB:=n3_;clear n0_ n1_ n2_ n3_;(try clear hb);(try clear hb2);(try clear hk);(try clear hi)))
                  go_ret
                  exact ⟨by first|rfl|(simp [errW_none,errW_some] <;> rfl)|(simp only [←hji33,←hji36];first|rfl|(simp [errW_none,errW_some] <;> rfl))|(simp [*,errW_none,errW_some] <;> rfl),by repeat (first|(with_reducible first|exact HB.out|apply Qc|apply Qa|apply Qb)|exact HB.out)⟩
               ·rw [if_neg c38] at H;exact absurd H (by simp)
              ·rw [if_neg c37] at H;exact absurd H (by simp)
             ·rw [if_neg c35] at H;exact absurd H (by simp)
            ·rw [if_neg c34] at H;exact absurd H (by simp)
          ·rw [if_neg c29] at H;exact absurd H (by simp)
      ·replace c16:=Bool.eq_false_iff.mpr c16;subst c16;have H1:(some true)=some r:=by rw [if_neg (show ¬ (false=true) by decide)] at H;exact H
       clear H;have H:=H1;clear H1
       as_aux_lemma=>
        obtain rfl:=Option.some.inj H;go_wp2
        go_ret
        exact ⟨by first|rfl|(simp [errW_none,errW_some] <;> rfl)|(simp [*,errW_none,errW_some] <;> rfl),by repeat (first|(with_reducible first|exact HB.out|apply Qc|apply Qa|apply Qb)|exact HB.out)⟩

/-- THE ONE PURE STATEMENT of laws_FnRings:yours. -/
def laws_FnRings.Pure:Prop:=∀ (l0:List Int) (l1:List Int),l0.length≤maxLen→l0.length * 1≤140737488351232→(∀ x ∈ l0,(Lit.int .u8 x).wf=true)→l1.length≤maxLen→l1.length * 1≤140737488351232→(∀ x ∈ l1,(Lit.int .u8 x).wf=true)→∃ k,laws_FnRings.f k l0 l1=some true
theorem laws_FnRings.walk (P:laws_FnRings.Pure) (a0:Option Addr) (len0 cap0:Nat) (z0:List Int) (a1:Option Addr) (len1 cap1:Nat) (z1:List Int) (w:World) (w0:(a0=none∧len0=0∧cap0=0∧z0=[])∨∃ x,a0=some x∧len0≤cap0∧cap0≤maxLen∧z0.length=cap0∧(∀ i,i<z0.length→w.cell? (x.add i)=some (.int .u8 (z0.getD i 0)))∧∀ n ∈ z0,(Lit.int .u8 n).wf=true) (y0:len0 * 1≤140737488351232) (w1:(a1=none∧len1=0∧cap1=0∧z1=[])∨∃ x,a1=some x∧len1≤cap1∧cap1≤maxLen∧z1.length=cap1∧(∀ i,i<z1.length→w.cell? (x.add i)=some (.int .u8 (z1.getD i 0)))∧∀ n ∈ z1,(Lit.int .u8 n).wf=true) (y1:len1 * 1≤140737488351232) :
    Calls Try.prog 6 #[.slice a0 len0 cap0,.slice a1 len1 cap1] w fun e w'=>e= .returned (.bool true)∧Below w.heap.size w w':=by
  obtain ⟨l0,rfl,hr0,hm0,hw0,hc0⟩:=ReadsInt.ofRowC w0;obtain ⟨l1,rfl,hr1,hm1,hw1,hc1⟩:=ReadsInt.ofRowC w1;obtain ⟨k,h⟩:=P l0 l1 hm0 y0 hw0 hm1 y1 hw1;refine (laws_FnRings.calls k _ _ l0 _ _ l1 true w (Kd.C_of_reads (d:=(0:Int)) (h1:=fun _=>rfl) hr0) hc0 (Kd.C_of_reads (d:=(0:Int)) (h1:=fun _=>rfl) hr1) hc1 h).mono ?_
  rintro e w' ⟨rfl,hd⟩
  exact ⟨rfl,hd⟩
end Go.Proofs.Ytneojimdhnhkeaa.Print
namespace Go.Proofs.Ytneojimdhnhkeaa.Pure
open Go.RowKit Go.Proofs.Ytneojimdhnhkeaa.Print Go.Proofs.YtneojimdhnhkeaaW.PrintWords Go.Proofs.YtneojimdhnhkeaaW.PrintLast Go.Proofs.YtneojimdhnhkeaaW.PrintMore

theorem Ev.of_eq {α : Type} {g : Nat → Option α} {r : α} (h : ∀ k, g k = some r) : Ev g r := ⟨0, fun k _ => h k⟩
theorem Ev.bind0 {α β : Type} {o : Option α} {f : Nat → α → Option β} {a : α} {r : β} (h : o = some a) (k : Ev (fun n => f n a) r) : Ev (fun n => o.bind (f n)) r := by
  subst h; exact k
theorem Ev.pos {α : Type} {c : Prop} [Decidable c] {g f : Nat → Option α} {r : α} (h : c) (k : Ev g r) : Ev (fun n => if c then g n else f n) r := by
  simpa only [if_pos h] using k
theorem Ev.neg {α : Type} {c : Prop} [Decidable c] {g f : Nat → Option α} {r : α} (h : ¬ c) (k : Ev f r) : Ev (fun n => if c then g n else f n) r := by
  simpa only [if_neg h] using k
theorem Ev.ite {α : Type} {c : Prop} [Decidable c] {g f : Nat → Option α} {r : α} (h : c → Ev g r) (k : ¬ c → Ev f r) : Ev (fun n => if c then g n else f n) r := by
  by_cases hc : c
  · exact Ev.pos hc (h hc)
  · exact Ev.neg hc (k hc)
theorem Ev.step0 {α : Type} {g f : Nat → Option α} {r : α} (k : Ev f r) (h : ∀ k, g (k + 1) = f k) : Ev g r := Ev.step h k
theorem Ev.to {α : Type} {g : Nat → Option α} {r s : α} (k : Ev g r) (h : r = s) : Ev g s := h ▸ k
theorem ev_up {β : Type} (n : Nat) (g : Nat → Nat → Option β) (r : β) (I : Nat → Prop) (h0 : I 0)
    (hend : I n → Ev (fun k => g k n) r) (hstep : ∀ i, i < n → I i → (I (i + 1) → Ev (fun k => g k (i + 1)) r) → Ev (fun k => g k i) r) : Ev (fun k => g k 0) r := by
  have h : ∀ d i, i + d = n → I i → Ev (fun k => g k i) r := by
    intro d
    induction d with
    | zero => intro i hi hI; obtain rfl : i = n := by omega
              exact hend hI
    | succ d ih => intro i hi hI; exact hstep i (by omega) hI fun hI' => ih (i + 1) (by omega) hI'
  exact h n 0 (by omega) h0
theorem w64 {x : Int} (h1 : -9223372036854775808 ≤ x) (h2 : x < 9223372036854775808) : wrap64 x = x := by unfold wrap64; omega
theorem rd_nat (l : List Int) (i : Nat) (h : i < l.length) : rd l (i : Int) = l[i] := by simp [rd, h]
theorem toNat_nat (i : Nat) : ((i : Int)).toNat = i := Int.toNat_natCast i
theorem lt_len {α : Type} {l : List α} {i : Nat} (h : i < l.length) : (i : Int) < (l.length : Int) := by omega
def allIn (l : List Int) (lo hi : Int) : Bool := l.all fun x => decide (lo ≤ x) && decide (x ≤ hi)
theorem allIn_iff (l : List Int) (lo hi : Int) : allIn l lo hi = true ↔ ∀ x ∈ l, lo ≤ x ∧ x ≤ hi := by
  simp [allIn, List.all_eq_true]
theorem all_take_false {α : Type} (l : List α) (p : α → Bool) (i : Nat) (h : i < l.length) (hp : p l[i] = false) : l.all p = false := by
  rw [List.all_eq_false]; exact ⟨l[i], List.getElem_mem h, by simp [hp]⟩
theorem all_take_succ {α : Type} (l : List α) (p : α → Bool) (i : Nat) (h : i < l.length) (ht : (l.take i).all p = true) (hp : p l[i] = true) : (l.take (i + 1)).all p = true := by
  rw [List.take_succ_eq_append_getElem h, List.all_append, ht]; simp [hp]
theorem Ev.succ {α : Type} {g : Nat → Option α} {r : α} (h : Ev (fun k => g (k + 1)) r) : Ev g r := Ev.step (fun _ => rfl) h
theorem exists_nat_of_nonneg {x : Int} (h : 0 ≤ x) : ∃ n : Nat, x = n := ⟨x.toNat, by omega⟩

def bytesOk (l : List Int) : Prop := ∀ x ∈ l, 0 ≤ x ∧ x ≤ 255
theorem wf_u8 {x : Int} (h : (Lit.int .u8 x).wf = true) : 0 ≤ x ∧ x ≤ 255 := by
  have h' : decide (IntKind.u8.min ≤ x) && decide (x ≤ IntKind.u8.max) := h
  simp only [Bool.and_eq_true, decide_eq_true_eq] at h'
  have e1 : IntKind.u8.min = 0 := by decide
  have e2 : IntKind.u8.max = 255 := by decide
  omega
theorem bytesOk_of (l : List Int) (h : ∀ x ∈ l, (Lit.int .u8 x).wf = true) : bytesOk l := fun x hx => wf_u8 (h x hx)
theorem u64_range (x : Int) : 0 ≤ IntKind.u64.wrap x ∧ IntKind.u64.wrap x < 18446744073709551616 := by
  have e : IntKind.u64.wrap x = x % 18446744073709551616 := by simp [IntKind.wrap, IntKind.bits, IntKind.signed]
  rw [e]; omega
theorem and_255 (x : Int) (h0 : 0 ≤ x) (h1 : x < 18446744073709551616) : 0 ≤ Go.bits .and .u64 x 255 ∧ Go.bits .and .u64 x 255 ≤ 255 := by
  obtain ⟨n, rfl⟩ := exists_nat_of_nonneg h0
  have e : Go.bits .and .u64 (n : Int) ((255 : Nat) : Int) = ((n &&& 255 : Nat) : Int) := u64_and_nat n 255 (by omega) (by omega)
  have h2 : n &&& 255 ≤ 255 := Nat.and_le_right
  have e' : Go.bits .and .u64 (n : Int) 255 = ((n &&& 255 : Nat) : Int) := e
  rw [e']; omega
theorem rd_mem_or (l : List Int) (i : Int) (h0 : 0 ≤ i) (h : i < l.length) : rd l i ∈ l := by
  obtain ⟨n, rfl⟩ := exists_nat_of_nonneg h0
  rw [rd_nat l n (by omega)]; exact List.getElem_mem _

theorem cur_next (l : List Int) (a s : Int) (hl : bytesOk l) (ha : 0 ≤ a ∧ a ≤ 4611686018427387904) :
    ∃ b s', spec_l1Cur_next.f l a s = some (b, a + 1, s') ∧ 0 ≤ b ∧ b ≤ 255 := by
  have hmask : ∀ y : Int, 0 ≤ wrap64 (Go.bits .and .u64 ((IntKind.u64.wrap y) / 1099511627776) 255) ∧ wrap64 (Go.bits .and .u64 ((IntKind.u64.wrap y) / 1099511627776) 255) ≤ 255 := fun y => by
    have h1 := u64_range y
    have h2 := and_255 ((IntKind.u64.wrap y) / 1099511627776) (by omega) (by omega)
    rw [w64 (by omega) (by omega)]; exact h2
  unfold spec_l1Cur_next.f
  rw [w64 (x := a + 1) (by omega) (by omega)]
  by_cases h1 : a < (l.length : Int)
  · have hb := hl _ (rd_mem_or l a ha.1 h1)
    rw [if_pos h1, if_pos ha.1]
    by_cases h2 : a + 1 ≤ (l.length : Int)
    · rw [if_pos h2]; exact ⟨_, _, rfl, by rw [w64 (by omega) (by omega)]; exact hb⟩
    · rw [if_neg h2]; exact ⟨_, _, rfl, hmask _⟩
  · rw [if_neg h1]
    by_cases h2 : a + 1 ≤ (l.length : Int)
    · rw [if_pos h2]; exact ⟨_, _, rfl, by omega⟩
    · rw [if_neg h2]; exact ⟨_, _, rfl, hmask _⟩

theorem cur_pick (l : List Int) (a s n : Int) (hl : bytesOk l) (ha : 0 ≤ a ∧ a ≤ 4611686018427387900) :
    ∃ r a' s', spec_l1Cur_pick.f l a s n = some (r, a', s') ∧ 0 ≤ r ∧ (r < n ∨ n ≤ 1 ∧ r = 0) ∧ a ≤ a' ∧ a' ≤ a + 2 := by
  unfold spec_l1Cur_pick.f
  by_cases h : n ≤ 1
  · rw [if_pos h]; exact ⟨0, a, s, rfl, by omega, .inr ⟨h, rfl⟩, by omega, by omega⟩
  · rw [if_neg h]
    obtain ⟨b, s1, e1, hb⟩ := cur_next l a s hl (by omega)
    rw [e1]; simp only [Option.bind_some]
    by_cases h2 : n > 200
    · rw [if_pos h2]
      obtain ⟨c, s2, e2, hc⟩ := cur_next l (a + 1) s1 hl (by omega)
      rw [e2]; simp only [Option.bind_some]; rw [if_neg (by omega), w64 (x := b * 256) (by omega) (by omega), w64 (by omega) (by omega)]
      exact ⟨_, _, _, rfl, Int.tmod_nonneg _ (by omega), .inl (Int.tmod_lt_of_pos _ (by omega)), by omega, by omega⟩
    · rw [if_neg h2, if_neg (by omega)]
      exact ⟨_, _, _, rfl, Int.tmod_nonneg _ (by omega), .inl (Int.tmod_lt_of_pos _ (by omega)), by omega, by omega⟩

theorem cur_one (l : List Int) (a s n : Int) (hl : bytesOk l) (ha : 0 ≤ a ∧ a ≤ 4611686018427387900) :
    ∃ r a' s', spec_l1Cur_one.f l a s n = some (r, a', s') ∧ a ≤ a' ∧ a' ≤ a + 2 := by
  unfold spec_l1Cur_one.f
  obtain ⟨r, a', s', e, h0, h1, h2, h3⟩ := cur_pick l a s n hl ha
  rw [e]; exact ⟨_, _, _, rfl, h2, h3⟩

theorem cur_among (l : List Int) (a s : Int) (l1 : List Int) (hl : bytesOk l) (ha : 0 ≤ a ∧ a ≤ 4611686018427387900) (h1 : 0 < l1.length) :
    ∃ r a' s', spec_l1Cur_among.f l a s l1 = some (r, a', s') ∧ r ∈ l1 ∧ a ≤ a' ∧ a' ≤ a + 2 := by
  unfold spec_l1Cur_among.f
  obtain ⟨r, a', s', e, h2, h3, h4, h5⟩ := cur_pick l a s (l1.length : Int) hl ha
  have h6 : r < (l1.length : Int) := by omega
  rw [e]; simp only [Option.bind_some]; rw [if_pos h2, if_pos h6]
  exact ⟨_, _, _, rfl, rd_mem_or l1 r h2 h6, h4, h5⟩

theorem spec_l1In_eq (n lo hi : Int) : spec_l1In.f n lo hi = some (decide (lo ≤ n) && decide (n ≤ hi)) := by
  unfold spec_l1In.f
  by_cases h : n ≥ lo
  · rw [if_pos h, decide_eq_true (show lo ≤ n from h)]; simp
  · rw [if_neg h, decide_eq_false (show ¬ lo ≤ n from h)]; simp

theorem impl_within_eq (n lo hi : Int) : impl_within.f n lo hi = some (decide (lo ≤ n) && decide (n ≤ hi)) := by
  unfold impl_within.f
  by_cases h : n ≥ lo
  · rw [if_pos h, decide_eq_true (show lo ≤ n from h)]; simp
  · rw [if_neg h, decide_eq_false (show ¬ lo ≤ n from h)]; simp

theorem spec_l1All_ev (l : List Int) (lo hi : Int) (hl : l.length < 4611686018427387904) : Ev (fun k => spec_l1All.f k l lo hi) (allIn l lo hi) := by
  unfold spec_l1All.f
  refine ev_up l.length (fun k i => spec_l1All.l0 k lo hi l (l.length : Int) (i : Int)) _ (fun i => allIn (l.take i) lo hi = true) (by simp [allIn]) ?_ ?_
  · intro hI
    refine Ev.step0 (Ev.of_eq fun _ => rfl) fun k => ?_
    simp only [spec_l1All.l0]; rw [if_neg (by omega)]
    rw [List.take_length] at hI; rw [hI]
  · intro i hi' hI hn
    cases hb : (decide (lo ≤ l[i]) && decide (l[i] ≤ hi)) with
    | true =>
      refine Ev.step0 (hn (all_take_succ l _ i hi' hI hb)) fun k => ?_
      simp only [spec_l1All.l0]; rw [if_pos (lt_len hi'), if_pos (by omega), if_pos (lt_len hi'), rd_nat l i hi', spec_l1In_eq, hb]
      simp only [Option.bind_some, if_true]; rw [w64 (by omega) (by omega)]; rfl
    | false =>
      refine Ev.step0 (Ev.of_eq fun _ => rfl) fun k => ?_
      simp only [spec_l1All.l0]; rw [if_pos (lt_len hi'), if_pos (by omega), if_pos (lt_len hi'), rd_nat l i hi', spec_l1In_eq, hb]
      simp only [Option.bind_some]; rw [if_neg (by decide)]
      rw [show allIn l lo hi = false from all_take_false l _ i hi' hb]

theorem impl_allWithin_ev (l : List Int) (lo hi : Int) (hl : l.length < 4611686018427387904) : Ev (fun k => impl_allWithin.f k l lo hi) (allIn l lo hi) := by
  unfold impl_allWithin.f sl0_ContainsFunc.f sl1_IndexFunc.f
  have key : ∃ j : Int, decide (j ≥ 0) = !(allIn l lo hi) ∧ Ev (fun k => sl1_IndexFunc.l0 k l (l.length : Int) 0 lo hi) j := by
    have hc : ∀ x : Int, impl_allWithin_1.f x lo hi = some (!(decide (lo ≤ x) && decide (x ≤ hi))) := fun x => by
      unfold impl_allWithin_1.f; rw [impl_within_eq]; rfl
    cases ha : allIn l lo hi with
    | true =>
      refine ⟨-1, by decide, ?_⟩
      refine ev_up l.length (fun k i => sl1_IndexFunc.l0 k l (l.length : Int) (i : Int) lo hi) _ (fun _ => True) trivial ?_ ?_
      · intro _
        refine Ev.step0 (Ev.of_eq fun _ => rfl) fun k => ?_
        simp only [sl1_IndexFunc.l0]; rw [if_neg (by omega)]
      · intro i hi' _ hn
        have hb := (allIn_iff l lo hi).mp ha l[i] (List.getElem_mem hi')
        refine Ev.step0 (hn trivial) fun k => ?_
        simp only [sl1_IndexFunc.l0]; rw [if_pos (lt_len hi'), if_pos (by omega), if_pos (lt_len hi'), rd_nat l i hi', hc, decide_eq_true hb.1, decide_eq_true hb.2]
        simp only [Option.bind_some]; rw [if_neg (by decide), w64 (by omega) (by omega)]; rfl
    | false =>
      have : ∃ i : Nat, i < l.length ∧ Ev (fun k => sl1_IndexFunc.l0 k l (l.length : Int) 0 lo hi) (i : Int) := by
        obtain ⟨i, hi', hp, hlt⟩ : ∃ i : Nat, ∃ h : i < l.length, (decide (lo ≤ l[i]) && decide (l[i] ≤ hi)) = false ∧ ∀ j, ∀ hj : j < i, (decide (lo ≤ l[j]) && decide (l[j] ≤ hi)) = true := by
          have h1 : ∃ i : Nat, ∃ h : i < l.length, (decide (lo ≤ l[i]) && decide (l[i] ≤ hi)) = false := by
            unfold allIn at ha
            rw [List.all_eq_false] at ha
            obtain ⟨x, hx, hp⟩ := ha
            obtain ⟨i, hi', rfl⟩ := List.getElem_of_mem hx
            exact ⟨i, hi', by simpa using hp⟩
          obtain ⟨m, hm, hmin⟩ := exists_least h1
          obtain ⟨hm1, hm2⟩ := hm
          refine ⟨m, hm1, hm2, fun j hj => ?_⟩
          cases hq : (decide (lo ≤ l[j]) && decide (l[j] ≤ hi)) with
          | true => rfl
          | false => have := hmin j ⟨by omega, hq⟩; omega
        refine ⟨i, hi', ?_⟩
        refine ev_up i (fun k i => sl1_IndexFunc.l0 k l (l.length : Int) (i : Int) lo hi) _ (fun _ => True) trivial ?_ ?_
        · intro _
          refine Ev.step0 (Ev.of_eq fun _ => rfl) fun k => ?_
          simp only [sl1_IndexFunc.l0]; rw [if_pos (lt_len hi'), if_pos (by omega), if_pos (lt_len hi'), rd_nat l i hi', hc, hp]
          simp
        · intro j hj _ hn
          have hj' : j < l.length := by omega
          refine Ev.step0 (hn trivial) fun k => ?_
          simp only [sl1_IndexFunc.l0]; rw [if_pos (lt_len hj'), if_pos (by omega), if_pos (lt_len hj'), rd_nat l j hj', hc, hlt j hj]
          simp only [Option.bind_some]; rw [if_neg (by decide), w64 (by omega) (by omega)]; rfl
      obtain ⟨i, _, hi2⟩ := this
      exact ⟨i, by simp, hi2⟩
  obtain ⟨j, hj, hev⟩ := key
  refine Ev.to (Ev.bind (Ev.bind hev (Ev.now _)) (Ev.now _)) ?_
  rw [hj]; simp

def lowNum (a b : Int) : Int := if b < 0 then Int.tdiv (-a) (Int.gcd a b) else Int.tdiv a (Int.gcd a b)
def lowDen (a b : Int) : Int := if b < 0 then Int.tdiv (-b) (Int.gcd a b) else Int.tdiv b (Int.gcd a b)
def goodFrac (a b : Int) : Bool := decide (-1000000000 ≤ a) && decide (a ≤ 1000000000) && (decide (1 ≤ b) && decide (b ≤ 1000000000)) && decide (Int.gcd a b = 1)

theorem w64n {i n : Nat} (h : i < n) (hn : n ≤ 4611686018427387904) : wrap64 ((i : Int) + 1) = ((i + 1 : Nat) : Int) := by rw [w64 (by omega) (by omega)]; rfl
theorem spec_l1Has_ev (l : List Int) (a : Int) (hl : l.length ≤ 4611686018427387904) : Ev (fun k => spec_l1Has.f k l a) (decide (a ∈ l)) := by
  unfold spec_l1Has.f
  have gen : ∀ (d i : Nat), i + d = l.length → Ev (fun k => spec_l1Has.l0 k a l (l.length : Int) (i : Int)) (decide (a ∈ l.drop i)) := by
    intro d
    induction d with
    | zero =>
      intro i hi
      rw [List.drop_of_length_le (by omega)]
      refine Ev.succ ?_
      simp only [spec_l1Has.l0]; exact Ev.neg (by omega) (Ev.now _)
    | succ d ih =>
      intro i hi
      have hi' : i < l.length := by omega
      rw [List.drop_eq_getElem_cons hi']
      refine Ev.succ ?_
      simp only [spec_l1Has.l0]
      refine Ev.pos (by omega) (Ev.pos (by omega) (Ev.pos (by omega) ?_))
      rw [rd_nat l i hi', w64 (by omega) (by omega)]
      refine Ev.ite (fun h => ?_) (fun h => ?_)
      · rw [h]; simpa using Ev.now true
      · have := ih (i + 1) (by omega)
        have e : decide (a ∈ l[i] :: l.drop (i + 1)) = decide (a ∈ l.drop (i + 1)) := by
          rw [decide_eq_decide, List.mem_cons]; constructor
          · rintro (h2 | h2)
            · exact absurd h2.symm h
            · exact h2
          · exact .inr
        rw [e]; exact this
  simpa using gen l.length 0 (by omega)

def wayOf (a b c d : Int) : Int := if a = c then ((b - d).natAbs : Int) else 3 * ((a - c).natAbs : Int) + (if 40 - (b + d) < b + d then 40 - (b + d) else b + d)
def spotOk (a b : Int) : Bool := (decide (0 ≤ a) && decide (a ≤ 9)) && (decide (0 ≤ b) && decide (b ≤ 20))

theorem laws_numberOf_ev (l : List Int) (hb : bytesOk l) (hl : l.length ≤ 1048576) : ∃ r, Ev (fun k => laws_numberOf.f k l) r ∧ 0 ≤ r ∧ r < 1000003 := by
  unfold laws_numberOf.f
  have gen : ∀ (d i : Nat) (x : Int), i + d = l.length → 0 ≤ x ∧ x < 1000003 → ∃ r, Ev (fun k => laws_numberOf.l0 k x l (l.length : Int) (i : Int)) r ∧ 0 ≤ r ∧ r < 1000003 := by
    intro d
    induction d with
    | zero =>
      intro i x hi hx
      refine ⟨x, Ev.succ ?_, hx⟩
      simp only [laws_numberOf.l0]; exact Ev.neg (by omega) (Ev.now _)
    | succ d ih =>
      intro i x hi hx
      have hi' : i < l.length := by omega
      have hbx := hb l[i] (List.getElem_mem hi')
      have h1 := Int.tmod_nonneg 1000003 (show 0 ≤ 31 * x + l[i] by omega)
      have h2 := Int.tmod_lt_of_pos (31 * x + l[i]) (show (0 : Int) < 1000003 by omega)
      obtain ⟨r, hr, hb2⟩ := ih (i + 1) (Int.tmod (31 * x + l[i]) 1000003) (by omega) ⟨h1, h2⟩
      refine ⟨r, Ev.succ ?_, hb2⟩
      simp only [laws_numberOf.l0]
      refine Ev.pos (by omega) (Ev.pos (by omega) (Ev.pos (by omega) ?_))
      rw [rd_nat l i hi', w64n hi' (by omega), w64 (x := 31 * x) (by omega) (by omega), w64 (x := l[i]) (by omega) (by omega), w64 (by omega) (by omega)]
      exact hr
  simpa using gen l.length 0 0 (by omega) (by omega)

theorem laws_sameInts_ev (a b : List Int) (hl : a.length ≤ 4611686018427387904) : Ev (fun k => laws_sameInts.f k a b) (decide (a = b)) := by
  unfold laws_sameInts.f
  refine Ev.ite (fun h => ?_) (fun h => ?_)
  · have hlen : a.length = b.length := by omega
    have gen : ∀ (d i : Nat), i + d = a.length → Ev (fun k => laws_sameInts.l0 k a b (a.length : Int) (i : Int)) (decide (a.drop i = b.drop i)) := by
      intro d
      induction d with
      | zero =>
        intro i hi
        rw [List.drop_of_length_le (by omega), List.drop_of_length_le (by omega)]
        refine Ev.succ ?_
        simp only [laws_sameInts.l0]; exact Ev.neg (by omega) (by simpa using Ev.now true)
      | succ d ih =>
        intro i hi
        have hi' : i < a.length := by omega
        have hi2 : i < b.length := by omega
        rw [List.drop_eq_getElem_cons hi', List.drop_eq_getElem_cons hi2]
        refine Ev.succ ?_
        simp only [laws_sameInts.l0]
        refine Ev.pos (by omega) (Ev.pos (by omega) (Ev.pos (by omega) (Ev.pos (by omega) ?_)))
        rw [rd_nat a i hi', rd_nat b i hi2, w64n hi' (by omega)]
        refine Ev.ite (fun h => ?_) (fun h => ?_)
        · have e : decide (a[i] :: a.drop (i + 1) = b[i] :: b.drop (i + 1)) = decide (a.drop (i + 1) = b.drop (i + 1)) := by
            rw [decide_eq_decide, h]; exact ⟨fun h => (List.cons.inj h).2, fun h => by rw [h]⟩
          rw [e]; exact ih (i + 1) (by omega)
        · have e : decide (a[i] :: a.drop (i + 1) = b[i] :: b.drop (i + 1)) = false := by
            rw [decide_eq_false_iff_not]; intro h2; injection h2 with h3; exact h h3
          rw [e]; exact Ev.now _
    simpa using gen a.length 0 (by omega)
  · have e : decide (a = b) = false := by rw [decide_eq_false_iff_not]; rintro rfl; exact h rfl
    rw [e]; exact Ev.now _

open Classical in
noncomputable def b2 (p : Prop) : Nat := if p then 1 else 0
theorem b2_pos {p : Prop} (h : p) : b2 p = 1 := if_pos h
theorem b2_neg {p : Prop} (h : ¬ p) : b2 p = 0 := if_neg h
theorem b2_congr {p q : Prop} (h : p ↔ q) : b2 p = b2 q := by rw [show p = q from propext h]
theorem b2_le (p : Prop) : b2 p ≤ 1 := by unfold b2; split <;> omega
noncomputable def cnt (p : Nat → Prop) : Nat → Nat
  | 0 => 0
  | n + 1 => cnt p n + b2 (p n)
theorem cnt_congr {p q : Nat → Prop} : ∀ n, (∀ i, i < n → (p i ↔ q i)) → cnt p n = cnt q n
  | 0, _ => rfl
  | n + 1, h => by rw [cnt, cnt, cnt_congr n (fun i hi => h i (by omega)), b2_congr (h n (by omega))]
theorem cnt_le {p q : Nat → Prop} : ∀ n, (∀ i, i < n → p i → q i) → cnt p n ≤ cnt q n
  | 0, _ => Nat.le_refl _
  | n + 1, h => by
    rw [cnt, cnt]
    have h1 := cnt_le n (fun i hi => h i (by omega))
    by_cases hp : p n
    · rw [b2_pos hp, b2_pos (h n (by omega) hp)]; omega
    · rw [b2_neg hp]; omega
theorem cnt_le_n (p : Nat → Prop) : ∀ n, cnt p n ≤ n
  | 0 => Nat.le_refl _
  | n + 1 => by rw [cnt]; have := cnt_le_n p n; have := b2_le (p n); omega
theorem cnt_zero {p : Nat → Prop} : ∀ n, (∀ i, i < n → ¬ p i) → cnt p n = 0
  | 0, _ => rfl
  | n + 1, h => by rw [cnt, cnt_zero n (fun i hi => h i (by omega)), b2_neg (h n (by omega))]
theorem cnt_eq_zero {p : Nat → Prop} : ∀ n, cnt p n = 0 → ∀ i, i < n → ¬ p i
  | 0, _, i, hi => by omega
  | n + 1, h, i, hi => by
    rw [cnt] at h
    intro hp
    by_cases e : i = n
    · subst e; rw [b2_pos hp] at h; omega
    · exact cnt_eq_zero n (by omega) i (by omega) hp
theorem cnt_split (p q : Nat → Prop) : ∀ n, cnt p n = cnt (fun i => p i ∧ q i) n + cnt (fun i => p i ∧ ¬ q i) n
  | 0 => rfl
  | n + 1 => by
    rw [cnt, cnt, cnt, cnt_split p q n]
    by_cases hp : p n
    · by_cases hq : q n
      · rw [b2_pos hp, b2_pos ⟨hp, hq⟩, b2_neg (fun h => h.2 hq)]; omega
      · rw [b2_pos hp, b2_neg (fun h => hq h.2), b2_pos ⟨hp, hq⟩]; omega
    · rw [b2_neg hp, b2_neg (fun h => hp h.1), b2_neg (fun h => hp h.1)]; omega
theorem cnt_unique {p : Nat → Prop} : ∀ n, (∃ j, j < n ∧ p j) → (∀ i j, i < n → j < n → p i → p j → i = j) → cnt p n = 1
  | 0, h, _ => by obtain ⟨j, hj, _⟩ := h; omega
  | n + 1, h, hu => by
    rw [cnt]
    by_cases hp : p n
    · rw [b2_pos hp, cnt_zero n (fun i hi hpi => by have := hu i n (by omega) (by omega) hpi hp; omega)]
    · rw [b2_neg hp, cnt_unique n (by
        obtain ⟨j, hj, hpj⟩ := h
        refine ⟨j, ?_, hpj⟩
        rcases Nat.lt_or_ge j n with h1 | h1
        · exact h1
        · obtain rfl : j = n := by omega
          exact absurd hpj hp) (fun i j hi hj => hu i j (by omega) (by omega))]
theorem cnt_but {p : Nat → Prop} {n j : Nat} (hj : j < n) (hp : p j) : cnt p n = cnt (fun i => p i ∧ i ≠ j) n + 1 := by
  rw [cnt_split p (fun i => i = j) n, cnt_unique (p := fun i => p i ∧ i = j) n ⟨j, hj, hp, rfl⟩ (fun a b _ _ ha hb => by rw [ha.2, hb.2])]
  have e : cnt (fun i => p i ∧ i ≠ j) n = cnt (fun i => p i ∧ ¬ i = j) n := rfl
  omega
theorem cnt_inj (f : Nat → Nat) : ∀ (n : Nat) {p q : Nat → Prop} {m : Nat}, (∀ i, i < n → p i → f i < m ∧ q (f i)) → (∀ i j, i < n → j < n → p i → p j → f i = f j → i = j) → cnt p n ≤ cnt q m
  | 0, _, _, _, _, _ => Nat.zero_le _
  | n + 1, p, q, m, h, hi => by
    rw [cnt]
    by_cases hp : p n
    · have h1 := h n (by omega) hp
      rw [b2_pos hp, cnt_but h1.1 h1.2]
      have := cnt_inj f n (p := p) (q := fun i => q i ∧ i ≠ f n) (m := m) (fun i hin hpi => ⟨(h i (by omega) hpi).1, (h i (by omega) hpi).2, fun e => by have := hi i n (by omega) (by omega) hpi hp e; omega⟩) (fun i j hin hjn => hi i j (by omega) (by omega))
      omega
    · rw [b2_neg hp]
      exact cnt_inj f n (fun i hin => h i (by omega)) (fun i j hin hjn => hi i j (by omega) (by omega))

def it (F : Nat → Option Nat) : Nat → Nat → Option Nat
  | 0, k => some k
  | m + 1, k => (F k).bind (it F m)
theorem it_add (F : Nat → Option Nat) : ∀ m n k, it F (m + n) k = (it F m k).bind (it F n)
  | 0, n, k => by simp [it]
  | m + 1, n, k => by
    rw [show m + 1 + n = (m + n) + 1 by omega, it, it]
    cases hF : F k with
    | none => rfl
    | some a => simp only [Option.bind_some]; exact it_add F m n a
theorem it_succ (F : Nat → Option Nat) (m k : Nat) : it F (m + 1) k = (it F m k).bind F := by
  rw [it_add]
  congr 1
  funext a
  cases h : F a <;> simp [it, h]
theorem it_one (F : Nat → Option Nat) (k : Nat) : it F 1 k = F k := by rw [it_succ]; rfl
theorem it_mul {F : Nat → Option Nat} {p k : Nat} (h : it F p k = some k) : ∀ m, it F (p * m) k = some k
  | 0 => rfl
  | m + 1 => by rw [Nat.mul_add, Nat.mul_one, it_add, it_mul h m]; exact h
def StepInj (F : Nat → Option Nat) : Prop := ∀ a b c, F a = some c → F b = some c → a = b
theorem it_inj {F : Nat → Option Nat} (h : StepInj F) : ∀ m a b c, it F m a = some c → it F m b = some c → a = b
  | 0, a, b, c, ha, hb => by simp only [it, Option.some.injEq] at ha hb; omega
  | m + 1, a, b, c, ha, hb => by
    simp only [it, Option.bind_eq_some_iff] at ha hb
    obtain ⟨a', ha', ha⟩ := ha
    obtain ⟨b', hb', hb⟩ := hb
    obtain rfl := it_inj h m a' b' c ha hb
    exact h a b a' ha' hb'
def onCyc (F : Nat → Option Nat) (k : Nat) : Prop := ∃ m, it F (m + 1) k = some k
def reach (F : Nat → Option Nat) (a b : Nat) : Prop := ∃ m, it F m a = some b
theorem reach_refl (F : Nat → Option Nat) (a : Nat) : reach F a a := ⟨0, rfl⟩
theorem reach_trans {F : Nat → Option Nat} {a b c : Nat} (h : reach F a b) (h' : reach F b c) : reach F a c := by
  obtain ⟨m, hm⟩ := h
  obtain ⟨n, hn⟩ := h'
  exact ⟨m + n, by rw [it_add, hm]; exact hn⟩
theorem reach_step {F : Nat → Option Nat} {a b : Nat} (h : F a = some b) : reach F a b := ⟨1, by rw [it_one]; exact h⟩
theorem cyc_reach {F : Nat → Option Nat} {k b : Nat} (h : onCyc F k) (hb : reach F k b) : onCyc F b ∧ reach F b k := by
  obtain ⟨p, hp⟩ := h
  obtain ⟨m, hm⟩ := hb
  have h1 := it_mul hp m
  obtain ⟨r, hr⟩ : ∃ r, (p + 1) * m = m + r := ⟨p * m, by rw [Nat.add_mul, Nat.one_mul]; omega⟩
  rw [hr, it_add, hm] at h1
  have h2 : it F r b = some k := h1
  refine ⟨⟨r + p + m, ?_⟩, ⟨r, h2⟩⟩
  rw [show r + p + m + 1 = r + ((p + 1) + m) by omega, it_add, h2]
  show it F (p + 1 + m) k = some b
  rw [it_add, hp]; exact hm
theorem cyc_some {F : Nat → Option Nat} {k : Nat} (h : onCyc F k) : ∃ b, F k = some b := by
  obtain ⟨m, hm⟩ := h
  simp only [it, Option.bind_eq_some_iff] at hm
  obtain ⟨b, hb, _⟩ := hm
  exact ⟨b, hb⟩
theorem cyc_back {F : Nat → Option Nat} (hF : StepInj F) {k b : Nat} (h : onCyc F k) (hb : reach F b k) : onCyc F b ∧ reach F k b := by
  obtain ⟨p, hp⟩ := h
  obtain ⟨m, hm⟩ := hb
  have h1 := it_mul hp m
  have e : (p + 1) * m = p * m + m := by rw [Nat.add_mul, Nat.one_mul]
  rw [e, it_add] at h1
  cases hc : it F (p * m) k with
  | none => rw [hc] at h1; cases h1
  | some c =>
    rw [hc] at h1
    have hbc : b = c := it_inj hF m b c k hm h1
    subst hbc
    have hr : reach F k b := ⟨_, hc⟩
    exact ⟨(cyc_reach ⟨p, hp⟩ hr).1, hr⟩
def lead (F : Nat → Option Nat) (k : Nat) : Prop := onCyc F k ∧ ∀ b, reach F k b → k ≤ b
noncomputable def cyc (F : Nat → Option Nat) (n : Nat) : Nat := cnt (lead F) n
def Within (F : Nat → Option Nat) (n : Nat) : Prop := ∀ a b, F a = some b → a < n ∧ b < n
theorem cyc_lt {F : Nat → Option Nat} {n k : Nat} (h : Within F n) (hk : onCyc F k) : k < n := by
  obtain ⟨b, hb⟩ := cyc_some hk
  exact (h k b hb).1
theorem lead_of {F : Nat → Option Nat} {p : Nat} (h : onCyc F p) : ∃ j, lead F j ∧ reach F j p := by
  obtain ⟨j, hj, hmin⟩ := exists_least (p := fun j => reach F p j) ⟨p, reach_refl F p⟩
  obtain ⟨h1, h2⟩ := cyc_reach h hj
  exact ⟨j, ⟨h1, fun b hb => hmin b (reach_trans hj hb)⟩, h2⟩
theorem lead_uniq {F : Nat → Option Nat} {p i j : Nat} (hi : lead F i) (hj : lead F j) (hip : reach F i p) (hjp : reach F j p) : i = j := by
  have h1 := (cyc_reach hi.1 hip).2
  have h2 := (cyc_reach hj.1 hjp).2
  have h3 := hi.2 j (reach_trans hip h2)
  have h4 := hj.2 i (reach_trans hjp h1)
  omega
theorem cyc_but {F : Nat → Option Nat} {n : Nat} (h : Within F n) (p : Nat) : cyc F n = cnt (fun k => lead F k ∧ ¬ reach F k p) n + b2 (onCyc F p) := by
  unfold cyc
  rw [cnt_split (lead F) (fun k => reach F k p) n]
  by_cases hp : onCyc F p
  · obtain ⟨j, hj, hjp⟩ := lead_of hp
    rw [b2_pos hp, cnt_unique n ⟨j, cyc_lt h hj.1, hj, hjp⟩ (fun i j _ _ hi hj => lead_uniq hi.1 hj.1 hi.2 hj.2)]
    omega
  · rw [b2_neg hp, cnt_zero n (fun i _ hi => hp (cyc_reach hi.1.1 hi.2).1)]
    omega
structure Shifted (F F' : Nat → Option Nat) (p q : Nat) : Prop where
  none1 : F q = none
  none2 : F' p = none
  same : F' q = F p
  rest : ∀ k, k ≠ p → k ≠ q → F' k = F k
theorem Shifted.symm {F F' : Nat → Option Nat} {p q : Nat} (h : Shifted F F' p q) : Shifted F' F q p := ⟨h.none2, h.none1, h.same.symm, fun k h1 h2 => (h.rest k h2 h1).symm⟩
theorem Shifted.iter {F F' : Nat → Option Nat} {p q k : Nat} (h : Shifted F F' p q) (hk : onCyc F k) (hp : ¬ reach F k p) : ∀ m, it F' m k = it F m k
  | 0 => rfl
  | m + 1 => by
    rw [it_succ, it_succ, Shifted.iter h hk hp m]
    cases hb : it F m k with
    | none => rfl
    | some b =>
      obtain ⟨c, hc⟩ := cyc_some (cyc_reach hk ⟨m, hb⟩).1
      exact h.rest b (fun e => hp ⟨m, by rw [hb, e]⟩) (fun e => by rw [e, h.none1] at hc; cases hc)
theorem Shifted.lead {F F' : Nat → Option Nat} {p q k : Nat} (h : Shifted F F' p q) (hk : lead F k ∧ ¬ reach F k p) : lead F' k ∧ ¬ reach F' k q := by
  obtain ⟨⟨h1, h2⟩, h3⟩ := hk
  have hi := h.iter h1 h3
  have hr : ∀ b, reach F' k b → reach F k b := fun b ⟨m, hm⟩ => ⟨m, by rw [← hi m]; exact hm⟩
  refine ⟨⟨?_, fun b hb => h2 b (hr b hb)⟩, fun hq => ?_⟩
  · obtain ⟨m, hm⟩ := h1
    exact ⟨m, by rw [hi]; exact hm⟩
  · obtain ⟨c, hc⟩ := cyc_some (cyc_reach h1 (hr q hq)).1
    rw [h.none1] at hc; cases hc
theorem Shifted.cyc {F F' : Nat → Option Nat} {n p q : Nat} (h : Shifted F F' p q) (hF : Within F n) (hF' : Within F' n) : cyc F n + b2 (onCyc F' q) = cyc F' n + b2 (onCyc F p) := by
  rw [cyc_but hF p, cyc_but hF' q, cnt_congr n (fun k _ => ⟨h.lead, h.symm.lead⟩)]
  omega
structure Turned (F G : Nat → Option Nat) : Prop where
  iff : ∀ a b, F a = some b ↔ G b = some a
theorem Turned.it {F G : Nat → Option Nat} (h : Turned F G) : ∀ m a b, it F m a = some b → it G m b = some a
  | 0, a, b, hm => by simp only [Pure.it, Option.some.injEq] at hm ⊢; omega
  | m + 1, a, b, hm => by
    simp only [Pure.it, Option.bind_eq_some_iff] at hm
    obtain ⟨c, hc, hm⟩ := hm
    rw [it_succ, h.it m c b hm]
    exact (h.iff a c).mp hc
theorem Turned.symm {F G : Nat → Option Nat} (h : Turned F G) : Turned G F := ⟨fun a b => (h.iff b a).symm⟩
theorem Turned.inj {F G : Nat → Option Nat} (h : Turned F G) : StepInj F := fun a b c ha hb => by
  have h1 := (h.iff a c).mp ha
  have h2 := (h.iff b c).mp hb
  rw [h1] at h2; exact Option.some.inj h2
theorem Turned.lead {F G : Nat → Option Nat} (h : Turned F G) {k : Nat} (hk : lead F k) : lead G k := by
  obtain ⟨⟨m, hm⟩, h2⟩ := hk
  refine ⟨⟨m, h.it _ _ _ hm⟩, fun b ⟨n, hb⟩ => h2 b (cyc_back h.inj ⟨m, hm⟩ ⟨n, h.symm.it _ _ _ hb⟩).2⟩
theorem Turned.cyc {F G : Nat → Option Nat} (h : Turned F G) (n : Nat) : cyc F n = cyc G n := cnt_congr n fun _ _ => ⟨h.lead, h.symm.lead⟩

theorem it_within {F : Nat → Option Nat} {n a b : Nat} (h : Within F n) (ha : a < n) : ∀ m, it F m a = some b → b < n
  | 0, hm => by simp only [it, Option.some.injEq] at hm; omega
  | m + 1, hm => by
    rw [it_succ, Option.bind_eq_some_iff] at hm
    obtain ⟨c, _, hc⟩ := hm
    exact (h c b hc).2
theorem cyc_pred {F : Nat → Option Nat} {k : Nat} (h : onCyc F k) : ∃ b, F b = some k := by
  obtain ⟨m, hm⟩ := h
  rw [it_succ, Option.bind_eq_some_iff] at hm
  obtain ⟨b, _, hb⟩ := hm
  exact ⟨b, hb⟩
theorem ring_all {F : Nat → Option Nat} {n p : Nat} {S : Nat → Prop} (hF : StepInj F) (hw : Within F n) (hS : ∀ k, S k → ∃ j, F k = some j ∧ S j) (hp : S p) : onCyc F p := by
  have hd : ∀ m, ∃ c, it F m p = some c ∧ S c := by
    intro m
    induction m with
    | zero => exact ⟨p, rfl, hp⟩
    | succ m ih =>
      obtain ⟨c, hc, hs⟩ := ih
      obtain ⟨d, hd, hs'⟩ := hS c hs
      exact ⟨d, by rw [it_succ, hc]; exact hd, hs'⟩
  by_cases hx : onCyc F p
  · exact hx
  · exfalso
    have h1 : cnt (fun _ => True) (n + 1) ≤ cnt (fun _ => True) n := by
      refine cnt_inj (fun m => (it F m p).getD 0) (n + 1) (fun i _ _ => ⟨?_, trivial⟩) (fun i j _ _ _ _ e => ?_)
      · obtain ⟨c, hc, hs⟩ := hd i
        rw [hc]
        obtain ⟨d, hd', _⟩ := hS c hs
        exact (hw c d hd').1
      · have key : ∀ i j, i < j → (it F i p).getD 0 = (it F j p).getD 0 → False := fun i j hij e => by
          obtain ⟨c, hc, _⟩ := hd i
          obtain ⟨c', hc', _⟩ := hd j
          rw [hc, hc'] at e
          have e' : c = c' := e
          subst e'
          obtain ⟨d, rfl⟩ : ∃ d, j = (d + 1) + i := ⟨j - i - 1, by omega⟩
          rw [it_add] at hc'
          obtain ⟨b, hb, _⟩ := hd (d + 1)
          rw [hb] at hc'
          have := it_inj hF i p b c hc hc'
          exact hx ⟨d, by rw [hb, this]⟩
        rcases Nat.lt_trichotomy i j with h | h | h
        · exact (key i j h e).elim
        · exact h
        · exact (key j i h e.symm).elim
    have h2 : ∀ m, cnt (fun _ => True) m = m := by
      intro m
      induction m with
      | zero => rfl
      | succ m ih => rw [cnt, ih, b2_pos trivial]
    rw [h2, h2] at h1
    omega

def Sp (A : Nat → Int) (n : Nat) : Prop := ∀ i j, i < n → j < n → A i ≠ 0 → A i = A j → i = j
structure Alike (A W : Nat → Int) (n : Nat) : Prop where
  sa : Sp A n
  sw : Sp W n
  there : ∀ i, i < n → A i ≠ 0 → ∃ j, j < n ∧ W j = A i
  back : ∀ j, j < n → W j ≠ 0 → ∃ i, i < n ∧ A i = W j
theorem Alike.symm {A W : Nat → Int} {n : Nat} (h : Alike A W n) : Alike W A n := ⟨h.sw, h.sa, h.back, h.there⟩
theorem Alike.trans {A B W : Nat → Int} {n : Nat} (h : Alike A B n) (h' : Alike B W n) : Alike A W n :=
  ⟨h.sa, h'.sw, fun i hi h0 => by
    obtain ⟨j, hj, e⟩ := h.there i hi h0
    obtain ⟨k, hk, e'⟩ := h'.there j hj (by rw [e]; exact h0)
    exact ⟨k, hk, e'.trans e⟩, fun j hj h0 => by
    obtain ⟨i, hi, e⟩ := h'.back j hj h0
    obtain ⟨k, hk, e'⟩ := h.back i hi (by rw [e]; exact h0)
    exact ⟨k, hk, e'.trans e⟩⟩
def stepF (A W : Nat → Int) (n k : Nat) : Option Nat := if k < n ∧ A k ≠ 0 then (List.range n).find? (fun j => decide (W j = A k)) else none
theorem stepF_iff {A W : Nat → Int} {n : Nat} (hW : Sp W n) (k j : Nat) : stepF A W n k = some j ↔ k < n ∧ A k ≠ 0 ∧ j < n ∧ W j = A k := by
  unfold stepF
  by_cases h : k < n ∧ A k ≠ 0
  · rw [if_pos h]
    constructor
    · intro hf
      have h1 := List.find?_some hf
      have h2 := List.mem_of_find?_eq_some hf
      exact ⟨h.1, h.2, by simpa using h2, by simpa using h1⟩
    · rintro ⟨_, _, hj, e⟩
      cases hf : (List.range n).find? (fun j => decide (W j = A k)) with
      | none =>
        have := List.find?_eq_none.mp hf j (by simpa using hj)
        exact absurd (decide_eq_true e) this
      | some j' =>
        have h1 := List.find?_some hf
        have h2 := List.mem_of_find?_eq_some hf
        have h1' : W j' = A k := by simpa using h1
        have h2' : j' < n := by simpa using h2
        rw [hW j j' hj h2' (by rw [e]; exact h.2) (by rw [e, h1'])]
  · rw [if_neg h]
    constructor
    · intro hf; cases hf
    · rintro ⟨h1, h2, _⟩; exact absurd ⟨h1, h2⟩ h
theorem stepF_within {A W : Nat → Int} {n : Nat} (hW : Sp W n) : Within (stepF A W n) n := fun a b h => by
  have := (stepF_iff hW a b).mp h; exact ⟨this.1, this.2.2.1⟩
theorem stepF_turned {A W : Nat → Int} {n : Nat} (h : Alike A W n) : Turned (stepF A W n) (stepF W A n) := ⟨fun a b => by
  rw [stepF_iff h.sw, stepF_iff h.sa]
  constructor
  · rintro ⟨h1, h2, h3, h4⟩; exact ⟨h3, by rw [h4]; exact h2, h1, h4.symm⟩
  · rintro ⟨h1, h2, h3, h4⟩; exact ⟨h3, by rw [h4]; exact h2, h1, h4.symm⟩⟩
theorem stepF_none {A W : Nat → Int} {n k : Nat} (h : A k = 0) : stepF A W n k = none := by unfold stepF; rw [if_neg (fun q => q.2 h)]
noncomputable def awayN (A W : Nat → Int) (n : Nat) : Nat := cnt (fun k => A k ≠ 0 ∧ W k ≠ A k) n
noncomputable def ringN (A W : Nat → Int) (n : Nat) : Nat := cnt (fun k => lead (stepF A W n) k ∧ stepF A W n k ≠ some k) n
noncomputable def needN (A W : Nat → Int) (n : Nat) : Nat := awayN A W n + ringN A W n
noncomputable def homeN (A W : Nat → Int) (n : Nat) : Nat := cnt (fun k => A k ≠ 0 ∧ W k = A k) n
noncomputable def goodN (A : Nat → Int) (n : Nat) : Nat := cnt (fun k => A k ≠ 0) n
theorem home_lead {F : Nat → Option Nat} {k : Nat} (h : F k = some k) : lead F k := by
  have h1 : ∀ m, it F m k = some k := by
    intro m
    induction m with
    | zero => rfl
    | succ m ih => rw [it, h]; exact ih
  exact ⟨⟨0, h1 1⟩, fun b ⟨m, hm⟩ => by rw [h1 m] at hm; cases hm; exact Nat.le_refl _⟩
theorem need_home {A W : Nat → Int} {n : Nat} (h : Alike A W n) : needN A W n + 2 * homeN A W n = goodN A n + cyc (stepF A W n) n := by
  have e1 : goodN A n = homeN A W n + awayN A W n := cnt_split _ _ n
  have e2 : cyc (stepF A W n) n = homeN A W n + ringN A W n := by
    unfold cyc
    rw [cnt_split (lead (stepF A W n)) (fun k => stepF A W n k = some k) n]
    congr 1
    refine cnt_congr n fun k hk => ?_
    rw [stepF_iff h.sw]
    constructor
    · rintro ⟨_, _, h2, _, h4⟩; exact ⟨h2, h4⟩
    · rintro ⟨h2, h4⟩
      exact ⟨home_lead ((stepF_iff h.sw k k).mpr ⟨hk, h2, hk, h4⟩), hk, h2, hk, h4⟩
  unfold needN; omega
structure Move1 (A A' : Nat → Int) (n p q : Nat) : Prop where
  hp : p < n
  hq : q < n
  ap : A p ≠ 0
  aq : A q = 0
  ap' : A' p = 0
  aq' : A' q = A p
  rest : ∀ k, k ≠ p → k ≠ q → A' k = A k
theorem Move1.ne {A A' : Nat → Int} {n p q : Nat} (h : Move1 A A' n p q) : p ≠ q := fun e => h.ap (by rw [e]; exact h.aq)
theorem Move1.alike {A A' W : Nat → Int} {n p q : Nat} (h : Move1 A A' n p q) (hl : Alike A W n) : Alike A' W n := by
  have hne := h.ne
  have from_ : ∀ k, k < n → A' k ≠ 0 → ∃ j, j < n ∧ A j = A' k ∧ (k = q ∧ j = p ∨ k ≠ q ∧ k ≠ p ∧ j = k) := fun k hk h0 => by
    by_cases e : k = q
    · subst e; exact ⟨p, h.hp, h.aq'.symm, .inl ⟨rfl, rfl⟩⟩
    · by_cases e' : k = p
      · subst e'; exact absurd h.ap' h0
      · exact ⟨k, hk, (h.rest k e' e).symm, .inr ⟨e, e', rfl⟩⟩
  refine ⟨fun i j hi hj h0 e => ?_, hl.sw, fun i hi h0 => ?_, fun j hj h0 => ?_⟩
  · obtain ⟨i', hi', e1, c1⟩ := from_ i hi h0
    obtain ⟨j', hj', e2, c2⟩ := from_ j hj (by rw [← e]; exact h0)
    have := hl.sa i' j' hi' hj' (by rw [e1]; exact h0) (by rw [e1, e2]; exact e)
    omega
  · obtain ⟨i', hi', e1, _⟩ := from_ i hi h0
    obtain ⟨j, hj, e⟩ := hl.there i' hi' (by rw [e1]; exact h0)
    exact ⟨j, hj, e.trans e1⟩
  · obtain ⟨i, hi, e⟩ := hl.back j hj h0
    by_cases e1 : i = p
    · subst e1; exact ⟨q, h.hq, h.aq'.trans e⟩
    · by_cases e2 : i = q
      · subst e2; exact absurd (e.symm.trans h.aq) h0
      · exact ⟨i, hi, (h.rest i e1 e2).trans e⟩
theorem Move1.shifted {A A' W : Nat → Int} {n p q : Nat} (h : Move1 A A' n p q) : Shifted (stepF A W n) (stepF A' W n) p q := by
  refine ⟨stepF_none h.aq, stepF_none h.ap', ?_, fun k h1 h2 => ?_⟩
  · unfold stepF
    rw [h.aq', if_pos ⟨h.hq, h.ap⟩, if_pos ⟨h.hp, h.ap⟩]
  · unfold stepF
    rw [h.rest k h1 h2]
theorem Move1.good {A A' : Nat → Int} {n p q : Nat} (h : Move1 A A' n p q) : goodN A' n = goodN A n := by
  unfold goodN
  rw [cnt_but (p := fun k => A k ≠ 0) h.hp h.ap, cnt_but (p := fun k => A' k ≠ 0) h.hq (by rw [h.aq']; exact h.ap)]
  congr 1
  refine cnt_congr n fun k _ => ?_
  by_cases e : k = p
  · subst e; exact ⟨fun x => absurd h.ap' x.1, fun x => absurd rfl x.2⟩
  · by_cases e' : k = q
    · subst e'; exact ⟨fun x => absurd rfl x.2, fun x => absurd h.aq x.1⟩
    · rw [h.rest k e e']; exact ⟨fun x => ⟨x.1, e⟩, fun x => ⟨x.1, e'⟩⟩
theorem Move1.home {A A' W : Nat → Int} {n p q : Nat} (h : Move1 A A' n p q) : homeN A' W n + b2 (W p = A p) = homeN A W n + b2 (W q = A p) := by
  unfold homeN
  rw [cnt_split (fun k => A k ≠ 0 ∧ W k = A k) (fun k => k = p) n, cnt_split (fun k => A' k ≠ 0 ∧ W k = A' k) (fun k => k = q) n]
  have e1 : cnt (fun k => (A k ≠ 0 ∧ W k = A k) ∧ k = p) n = b2 (W p = A p) := by
    by_cases hw : W p = A p
    · rw [b2_pos hw]; exact cnt_unique n ⟨p, h.hp, ⟨h.ap, hw⟩, rfl⟩ (fun i j _ _ hi hj => hi.2.trans hj.2.symm)
    · rw [b2_neg hw]; exact cnt_zero n fun i _ hi => hw (by have := hi.1.2; rwa [hi.2] at this)
  have e2 : cnt (fun k => (A' k ≠ 0 ∧ W k = A' k) ∧ k = q) n = b2 (W q = A p) := by
    by_cases hw : W q = A p
    · rw [b2_pos hw]; exact cnt_unique n ⟨q, h.hq, ⟨by rw [h.aq']; exact h.ap, by rw [h.aq']; exact hw⟩, rfl⟩ (fun i j _ _ hi hj => hi.2.trans hj.2.symm)
    · rw [b2_neg hw]; exact cnt_zero n fun i _ hi => hw (by have := hi.1.2; rw [hi.2, h.aq'] at this; exact this)
  have e3 : cnt (fun k => (A' k ≠ 0 ∧ W k = A' k) ∧ ¬ k = q) n = cnt (fun k => (A k ≠ 0 ∧ W k = A k) ∧ ¬ k = p) n := by
    refine cnt_congr n fun k _ => ?_
    by_cases e : k = p
    · subst e; exact ⟨fun x => absurd h.ap' x.1.1, fun x => absurd rfl x.2⟩
    · by_cases e' : k = q
      · subst e'; exact ⟨fun x => absurd rfl x.2, fun x => absurd h.aq x.1.1⟩
      · rw [h.rest k e e']; exact ⟨fun x => ⟨x.1, e⟩, fun x => ⟨x.1, e'⟩⟩
  rw [e1, e2, e3]; omega
theorem Move1.need {A A' W : Nat → Int} {n p q : Nat} (h : Move1 A A' n p q) (hl : Alike A W n) :
    needN A' W n + b2 (onCyc (stepF A W n) p) + 2 * b2 (W q = A p) = needN A W n + b2 (onCyc (stepF A' W n) q) + 2 * b2 (W p = A p) := by
  have e1 := need_home hl
  have e2 := need_home (h.alike hl)
  have e3 := h.good
  have e4 := h.home (W := W)
  have e5 := (h.shifted (W := W)).cyc (n := n) (stepF_within hl.sw) (stepF_within hl.sw)
  omega
theorem Move1.gone {A A' W : Nat → Int} {n p q : Nat} (h : Move1 A A' n p q) (hl : Alike A W n) (hw : W q = A p) : needN A W n = needN A' W n + 1 := by
  have e := h.need hl
  have hne := h.ne
  have h1 : ¬ onCyc (stepF A W n) p := fun hc => by
    have hs : stepF A W n p = some q := (stepF_iff hl.sw p q).mpr ⟨h.hp, h.ap, h.hq, hw⟩
    obtain ⟨c, hc⟩ := cyc_some (cyc_reach hc (reach_step hs)).1
    rw [stepF_none h.aq] at hc; cases hc
  have h2 : onCyc (stepF A' W n) q := ⟨0, by rw [it_one]; exact (stepF_iff hl.sw q q).mpr ⟨h.hq, by rw [h.aq']; exact h.ap, h.hq, by rw [h.aq']; exact hw⟩⟩
  have h3 : W p ≠ A p := fun e => hne (hl.sw p q h.hp h.hq (by rw [e]; exact h.ap) (by rw [e, hw]))
  rw [b2_neg h1, b2_pos hw, b2_pos h2, b2_neg h3] at e
  omega
theorem Move1.away {A A' W : Nat → Int} {n p q : Nat} (h : Move1 A A' n p q) (hl : Alike A W n) (hw : W p = A p) : needN A' W n = needN A W n + 1 := by
  have e := h.need hl
  have hne := h.ne
  have h1 : onCyc (stepF A W n) p := ⟨0, by rw [it_one]; exact (stepF_iff hl.sw p p).mpr ⟨h.hp, h.ap, h.hp, hw⟩⟩
  have h2 : ¬ onCyc (stepF A' W n) q := fun hc => by
    have hs : stepF A' W n q = some p := (stepF_iff hl.sw q p).mpr ⟨h.hq, by rw [h.aq']; exact h.ap, h.hp, by rw [h.aq']; exact hw⟩
    obtain ⟨c, hc⟩ := cyc_some (cyc_reach hc (reach_step hs)).1
    rw [stepF_none h.ap'] at hc; cases hc
  have h3 : W q ≠ A p := fun e => hne (hl.sw p q h.hp h.hq (by rw [hw]; exact h.ap) (by rw [hw, e]))
  rw [b2_pos h1, b2_neg h3, b2_neg h2, b2_pos hw] at e
  omega
theorem Move1.one {A A' W : Nat → Int} {n p q : Nat} (h : Move1 A A' n p q) (hl : Alike A W n) : needN A' W n ≤ needN A W n + 1 ∧ needN A W n ≤ needN A' W n + 1 := by
  by_cases h1 : W q = A p
  · have := h.gone hl h1; omega
  · by_cases h2 : W p = A p
    · have := h.away hl h2; omega
    · have e := h.need hl
      rw [b2_neg h1, b2_neg h2] at e
      have c1 := b2_le (onCyc (stepF A W n) p)
      have c2 := b2_le (onCyc (stepF A' W n) q)
      omega
theorem need_symm {A W : Nat → Int} {n : Nat} (h : Alike A W n) : needN A W n = needN W A n := by
  have e1 := need_home h
  have e2 := need_home h.symm
  have e3 : homeN A W n = homeN W A n := cnt_congr n fun k _ => by
    constructor
    · rintro ⟨h1, h2⟩; exact ⟨by rw [h2]; exact h1, h2.symm⟩
    · rintro ⟨h1, h2⟩; exact ⟨by rw [h2]; exact h1, h2.symm⟩
  have e4 := (stepF_turned h).cyc n
  have le : ∀ {A W : Nat → Int}, Alike A W n → goodN A n ≤ goodN W n := fun {A W} h => by
    refine cnt_inj (fun k => (stepF A W n k).getD 0) n (fun i hi h0 => ?_) (fun i j hi hj hi0 hj0 e => ?_)
    · obtain ⟨j, hj, e⟩ := h.there i hi h0
      rw [(stepF_iff h.sw i j).mpr ⟨hi, h0, hj, e⟩]
      exact ⟨hj, by show W j ≠ 0; rw [e]; exact h0⟩
    · obtain ⟨a, ha, ea⟩ := h.there i hi hi0
      obtain ⟨b, hb, eb⟩ := h.there j hj hj0
      have f1 := (stepF_iff h.sw i a).mpr ⟨hi, hi0, ha, ea⟩
      have f2 := (stepF_iff h.sw j b).mpr ⟨hj, hj0, hb, eb⟩
      rw [f1, f2] at e
      have e' : a = b := e
      subst e'
      exact h.sa i j hi hj hi0 (ea.symm.trans eb)
  have l1 := le h
  have l2 := le h.symm
  omega
theorem need_zero {A W : Nat → Int} {n : Nat} (h : Alike A W n) : needN A W n = 0 ↔ ∀ k, k < n → A k = W k := by
  constructor
  · intro h0 k hk
    have ha : awayN A W n = 0 := by unfold needN at h0; omega
    have h1 := cnt_eq_zero n ha
    have hom : ∀ i, i < n → A i ≠ 0 → W i = A i := fun i hi hne => by
      by_cases e : W i = A i
      · exact e
      · exact absurd ⟨hne, e⟩ (h1 i hi)
    by_cases hz : A k = 0
    · by_cases hw : W k = 0
      · rw [hz, hw]
      · obtain ⟨i, hi, e⟩ := h.back k hk hw
        have e2 := hom i hi (by rw [e]; exact hw)
        have := h.sw i k hi hk (by rw [e2, e]; exact hw) (by rw [e2, e])
        subst this
        exact e
    · exact (hom k hk hz).symm
  · intro he
    have h1 : awayN A W n = 0 := cnt_zero n fun k hk hx => hx.2 (he k hk).symm
    have h2 : ringN A W n = 0 := cnt_zero n fun k hk hx => by
      obtain ⟨⟨hc, _⟩, hne⟩ := hx
      obtain ⟨b, hb⟩ := cyc_some hc
      have := (stepF_iff h.sw k b).mp hb
      exact hne ((stepF_iff h.sw k k).mpr ⟨hk, this.2.1, hk, (he k hk).symm⟩)
    unfold needN; omega
theorem ring_half {A W : Nat → Int} {n : Nat} (h : Alike A W n) : 2 * ringN A W n ≤ awayN A W n := by
  have hs : awayN A W n = _ := cnt_split (fun k => A k ≠ 0 ∧ W k ≠ A k) (fun k => lead (stepF A W n) k) n
  have aw : ∀ k, lead (stepF A W n) k ∧ stepF A W n k ≠ some k → k < n ∧ A k ≠ 0 ∧ W k ≠ A k := fun k hk => by
    obtain ⟨b, hb⟩ := cyc_some hk.1.1
    have := (stepF_iff h.sw k b).mp hb
    exact ⟨this.1, this.2.1, fun e => hk.2 ((stepF_iff h.sw k k).mpr ⟨this.1, this.2.1, this.1, e⟩)⟩
  have h1 : ringN A W n ≤ cnt (fun k => (A k ≠ 0 ∧ W k ≠ A k) ∧ lead (stepF A W n) k) n := cnt_le n fun k _ hk => ⟨(aw k hk).2, hk.1⟩
  have hT := stepF_turned h
  have h2 : ringN A W n ≤ cnt (fun k => (A k ≠ 0 ∧ W k ≠ A k) ∧ ¬ lead (stepF A W n) k) n := by
    refine cnt_inj (fun k => (stepF A W n k).getD 0) n (fun i hi hk => ?_) (fun i j hi hj hki hkj e => ?_)
    · obtain ⟨b, hb⟩ := cyc_some hk.1.1
      rw [hb]
      show b < n ∧ (A b ≠ 0 ∧ W b ≠ A b) ∧ ¬ lead (stepF A W n) b
      have hib := (stepF_iff h.sw i b).mp hb
      obtain ⟨c1, c2⟩ := cyc_reach hk.1.1 (reach_step hb)
      obtain ⟨c, hc⟩ := cyc_some c1
      have hbc := (stepF_iff h.sw b c).mp hc
      have hbne : b ≠ i := fun e => hk.2 (by rw [hb, e])
      refine ⟨hib.2.2.1, ⟨hbc.2.1, fun e => ?_⟩, fun hl => ?_⟩
      · have : stepF A W n b = some b := (stepF_iff h.sw b b).mpr ⟨hib.2.2.1, hbc.2.1, hib.2.2.1, e⟩
        exact hbne (hT.inj b i b this hb)
      · have e1 := hl.2 i c2
        have e2 := hk.1.2 b (reach_step hb)
        omega
    · obtain ⟨a, ha⟩ := cyc_some hki.1.1
      obtain ⟨b, hb⟩ := cyc_some hkj.1.1
      rw [ha, hb] at e
      have e' : a = b := e
      subst e'
      exact hT.inj i j a ha hb
  omega
theorem Move1.turn {A A' W : Nat → Int} {n p q : Nat} (h : Move1 A A' n p q) (hl : Alike A W n) (hz : ∀ k, k < n → A k = 0 → W k = 0) (hw : W p ≠ A p) : needN A W n = needN A' W n + 1 := by
  have hT := stepF_turned hl
  have hz' : ∀ k, k < n → W k ≠ 0 → A k ≠ 0 := fun k hk hne e => hne (hz k hk e)
  -- every good's spot leads on to a good's spot
  have hc : onCyc (stepF A W n) p := by
    refine ring_all (n := n) (S := fun k => k < n ∧ A k ≠ 0) hT.inj (stepF_within hl.sw) (fun k hk => ?_) ⟨h.hp, h.ap⟩
    obtain ⟨j, hj, e⟩ := hl.there k hk.1 hk.2
    exact ⟨j, (stepF_iff hl.sw k j).mpr ⟨hk.1, hk.2, hj, e⟩, hj, hz' j hj (by rw [e]; exact hk.2)⟩
  have hq : W q = 0 := hz q h.hq h.aq
  have hn : ¬ onCyc (stepF A' W n) q := fun hx => by
    obtain ⟨b, hb⟩ := cyc_pred hx
    have := (stepF_iff hl.sw b q).mp hb
    rw [hq] at this
    exact this.2.1 this.2.2.2.symm
  have e := h.need hl
  rw [b2_pos hc, b2_neg hn, b2_neg (show ¬ W q = A p by rw [hq]; exact fun e => h.ap e.symm), b2_neg hw] at e
  omega

def moveF (A : Nat → Int) (p q : Nat) : Nat → Int := fun k => if k = p then 0 else if k = q then A p else A k
theorem moveF_move {A : Nat → Int} {n p q : Nat} (hp : p < n) (hq : q < n) (h1 : A p ≠ 0) (h2 : A q = 0) : Move1 A (moveF A p q) n p q := by
  have hne : q ≠ p := fun e => h1 (by rw [← e]; exact h2)
  exact ⟨hp, hq, h1, h2, by unfold moveF; rw [if_pos rfl], by unfold moveF; rw [if_neg hne, if_pos rfl], fun k e1 e2 => by unfold moveF; rw [if_neg e1, if_neg e2]⟩
theorem need_congr {A A' W : Nat → Int} {n : Nat} (h : ∀ k, k < n → A k = A' k) : needN A W n = needN A' W n := by
  have hF : stepF A W n = stepF A' W n := by
    funext k
    unfold stepF
    by_cases hk : k < n
    · rw [h k hk]
    · rw [if_neg (fun q => hk q.1), if_neg (fun q => hk q.1)]
  unfold needN awayN ringN
  rw [hF]
  congr 1
  exact cnt_congr n fun k hk => by rw [h k hk]
theorem need_move {A W : Nat → Int} {n : Nat} (h : Alike A W n) (hh : ∃ k, k < n ∧ A k = 0) (hne : needN A W n ≠ 0) : ∃ p q, Move1 A (moveF A p q) n p q ∧ needN A W n = needN (moveF A p q) W n + 1 := by
  by_cases hz : ∀ k, k < n → A k = 0 → W k = 0
  · obtain ⟨p, hp, hpw⟩ : ∃ p, p < n ∧ A p ≠ W p := by
      refine Classical.byContradiction fun hx => hne ((need_zero h).mpr fun k hk => ?_)
      exact Classical.byContradiction fun e => hx ⟨k, hk, e⟩
    obtain ⟨q, hq, hq0⟩ := hh
    have hp0 : A p ≠ 0 := fun e => hpw (by rw [e, hz p hp e])
    have hm := moveF_move hp hq hp0 hq0
    exact ⟨p, q, hm, hm.turn h hz (fun e => hpw e.symm)⟩
  · obtain ⟨q, hq⟩ := Classical.not_forall.mp hz
    obtain ⟨hq1, hq⟩ := Classical.not_imp.mp hq
    obtain ⟨hq2, hq3⟩ := Classical.not_imp.mp hq
    obtain ⟨p, hp, e⟩ := h.back q hq1 hq3
    have hm := moveF_move hp hq1 (by rw [e]; exact hq3) hq2
    exact ⟨p, q, hm, hm.gone h e.symm⟩
theorem Move1.hole {A A' : Nat → Int} {n p q : Nat} (h : Move1 A A' n p q) : ∃ k, k < n ∧ A' k = 0 := ⟨p, h.hp, h.ap'⟩
theorem need_tri {B W : Nat → Int} {n : Nat} (h2 : Alike B W n) : ∀ (m : Nat) (A : Nat → Int), Alike A B n → (∃ k, k < n ∧ A k = 0) → needN A B n = m → needN A W n ≤ m + needN B W n
  | 0, A, h1, _, hm => by
    have := (need_zero h1).mp hm
    rw [need_congr this]; omega
  | m + 1, A, h1, hh, hm => by
    obtain ⟨p, q, hmv, he⟩ := need_move h1 hh (by omega)
    have h3 := need_tri h2 m (moveF A p q) (hmv.alike h1) hmv.hole (by omega)
    have h4 := hmv.one (h1.trans h2)
    omega

def flowOk (flow : List Int) : Bool := decide (1 ≤ (flow.length : Int)) && decide ((flow.length : Int) ≤ 8) && allIn flow 1 30
def countsOk (flow counts : List Int) : Bool := flowOk flow && (decide ((counts.length : Int) = (flow.length : Int)) && (allIn counts 1 40 && decide (counts.sum ≤ 40)))
def gn (f c : Int) : Int := lowNum f (c * (c + 1))
def gd (f c : Int) : Int := lowDen f (c * (c + 1))
def bestUp (lt : Nat → Nat → Bool) : Nat → Nat
  | 0 => 0
  | i + 1 => if lt (bestUp lt i) i = true then i else bestUp lt i
def gainLt (flow counts : List Int) (b i : Nat) : Bool := decide (gn flow[b]! counts[b]! * gd flow[i]! counts[i]! < gn flow[i]! counts[i]! * gd flow[b]! counts[b]!)
def nextOf (flow counts : List Int) : Nat := bestUp (gainLt flow counts) flow.length

def ins (lt : Int → Int → Bool) (x : Int) (l : List Int) : List Int := l.takeWhile (fun y => !lt x y) ++ x :: l.dropWhile (fun y => !lt x y)
def isl (lt : Int → Int → Bool) (l : List Int) : List Int := l.foldl (fun s x => ins lt x s) []
structure Weak (lt : Int → Int → Bool) (P : Int → Prop) : Prop where
  nt : ∀ a b c, P a → P b → P c → lt a b = false → lt b c = false → lt a c = false
  asy : ∀ a b, P a → P b → lt a b = true → lt b a = false
structure Inserts (cmp : Int → Int → Option Int) (n : Nat) (g0 : Nat → List Int → Int → Option (List Int)) (g1 : Nat → List Int → Int → Int → Option (List Int)) : Prop where
  h0 : ∀ k x i, g0 (k + 1) x i = if i < (n : Int) then g1 k x i i else some x
  h1 : ∀ k (x : List Int) (i j : Int), g1 (k + 1) x i j = if j > 0 then (if 0 ≤ j then (if j < (x.length : Int) then (if 0 ≤ (wrap64 (j - 1)) then (if (wrap64 (j - 1)) < (x.length : Int) then ((cmp (rd x j) (rd x (wrap64 (j - 1)))).bind fun t => (if t < 0 then (g1 k ((x.set (j : Int).toNat (rd x (wrap64 (j - 1)))).set ((wrap64 (j - 1)) : Int).toNat (rd x j)) i (wrap64 (j - 1))) else (g0 k x (wrap64 (i + 1))))) else (none)) else (none)) else (none)) else (none)) else (g0 k x (wrap64 (i + 1)))

def idx (n : Nat) : List Int := (List.range n).map fun (j : Nat) => (j : Int)
theorem idx_length (n : Nat) : (idx n).length = n := by simp [idx]
theorem idx_succ (n : Nat) : idx (n + 1) = idx n ++ [(n : Int)] := by simp [idx, List.range_succ]
def ltDown (values : List Int) (a b : Int) : Bool := decide (rd values b < rd values a)
def ltG (picks counts : List Int) (a b : Int) : Bool := decide (rd picks b * rd counts a < rd picks a * rd counts b)
end Go.Proofs.Ytneojimdhnhkeaa.Pure
namespace Go.Proofs.Ytneojimdhnhkeaa.Print
open Go.RowKit Go.Proofs.YtneojimdhnhkeaaW.PrintWords Go.Proofs.YtneojimdhnhkeaaW.PrintLast Go.Proofs.YtneojimdhnhkeaaW.PrintMore
attribute [local go_sem] max2_int min2_int max_two min_two max_three min_three max_four min_four

-- NEEDS slices.Sorted[int]
def srt.upNat (n:Nat):List Int:=(List.range n).map fun (j:Nat)=>(j:Int)
def impl_isOrder.f (l0:List Int) (a1:Int):Option Bool:=if l0.length≤1048576 then some (decide (srt.sorted l0=srt.upNat l0.length) && decide ((l0.length:Int)=a1)) else none
theorem srt.up_iff (s:List Int):s=srt.upNat s.length ↔ ∀ j,j<s.length→rd s j=(j:Int):=by
  constructor
  · intro h j hj
    have h2:s[j]=(srt.upNat s.length)[j]'(by simp [srt.upNat];exact hj):=by congr 1
    unfold rd
    rw [Int.toNat_natCast,List.getD_eq_getElem?_getD,List.getElem?_eq_getElem hj,Option.getD_some,h2]
    simp [srt.upNat]
  · intro h
    apply List.ext_getElem
    · simp [srt.upNat]
    · intro j h1 h2
      have:=h j h1
      unfold rd at this
      rw [Int.toNat_natCast,List.getD_eq_getElem?_getD,List.getElem?_eq_getElem h1,Option.getD_some] at this;rw [this];simp [srt.upNat]
set_option maxHeartbeats 4000000 in
set_option maxRecDepth 100000 in
theorem impl_isOrder.calls (A0:Option Addr) (c0:Nat) (l0:List Int) (a1:Int) (r:Bool) (w:World) (hr0:Kd.C (Kd.int .i64) w A0 l0.length l0) (hc0:l0.length≤c0) (h:impl_isOrder.f l0 a1=some r) :
    Calls Try.prog 193 #[.slice A0 l0.length c0,.int .i64 a1] w fun e w'=>e= .returned (.bool r)∧Below w.heap.size w w':=by
  unfold impl_isOrder.f at h
  by_cases hl:l0.length≤1048576
  case neg=>rw [if_neg hl] at h;cases h
  rw [if_pos hl] at h;obtain rfl:=Option.some.inj h;clear h;have hI:=srt.ints_of (c:=c0) hr0;have cV:∀ W,Calls Try.prog 286 #[.slice A0 l0.length c0] W fun e w'=>e= .returned (.func (.func 316) #[] #[.pointer (some ⟨W.heap.size,0,none⟩)])∧w'=W.alloc (.cells #[.slice A0 l0.length c0] 34):=fun W=>(callsIn_wide (n:=6)).1 (srt.values_in Fence.wide 6 trivial rfl _ _ _ W)
  have hB1:Below w.heap.size w (w.alloc (.cells #[.slice A0 l0.length c0] 34)):=(Below.refl _ w).alloc (Nat.le_refl _) _
  have cS:Calls Try.prog 285 #[.func (.func 316) #[] #[.pointer (some ⟨w.heap.size,0,none⟩)]] (w.alloc (.cells #[.slice A0 l0.length c0] 34)) fun e w'=>∃ Av cv,e= .returned (.slice Av (srt.sorted l0).length cv)∧(srt.sorted l0).length≤cv∧Kd.C (Kd.int .i64) w' Av (srt.sorted l0).length (srt.sorted l0)∧Below w.heap.size w w':=by
    refine ((callsIn_wide (n:=6)).1 (srt.sorted_in 6 (by omega) w.heap.size (.slice A0 l0.length c0) l0 (by omega) _ (by simp) (by simp) (by
      rcases hI.below hB1 with h|⟨ad,cap,e,hb,hc⟩
      · exact .inl h
      · exact .inr ⟨ad,cap,e,by simp;omega,hc⟩))).mono ?_
    rintro e w' ⟨v,rfl,hrow,hb⟩
    have hR:(Kd.int .i64).R 3 w' (w.alloc (.cells #[.slice A0 l0.length c0] 34)).heap.size (fun _=>True) v (srt.sorted l0):=Kd.R_of_own hrow (fun _ _=>trivial);obtain ⟨Av,cv,rfl,hcv,hC⟩:=Kd.R_reads hR;exact ⟨Av,cv,rfl,hcv,hC,hB1.trans (hb.mono hB1.size)⟩
  have hsl:=srt.sorted_length l0
  generalize hs:srt.sorted l0=s at *
  have hsl':=aM hsl;clear hsl;go_enter Try.func193,Try.ntmps193
  go_wp2_with (first
    |(go_at_call 286;refine (cV _).mono ?_;rintro e w' ⟨rfl,rfl⟩)
    |(go_at_call 285;refine cS.mono ?_;rintro e w1 ⟨Av,cv,rfl,hcv,hC,hbb⟩))
  clear cV cS hB1 hI hs;go_loopg [13] s.length (fun kq v13 w'=>∃ x:Int,v13= .int .i64 x∧Aside0 (0≤x∧x+kq=s.length∧∀ j:Nat,(j:Int)<x→rd s j=(j:Int))∧Drawn0 w1 w')
  case atStart=>exact ⟨0,rfl,⟨by omega,by omega,fun j hj=>by omega⟩,Drawn0.refl _⟩
  case round=>
    obtain ⟨x,rfl,hx,⟨m1,rfl⟩⟩:=hrel;by_cases hlt:x<(s.length:Int)
    · have p:0≤x:=hx.out.1
      obtain ⟨ad,e,hxc⟩:=Kd.at_int hC x p hlt
      cases e
      have c1:decide (x<(s.length:Int))=true:=decide_eq_true hlt;by_cases heq:rd s x=x
      · have c2:(rd s x == x)=true:=by simpa using heq
        have hnx:Aside0 (0≤x+1∧x+1+((gk - 1:Nat):Int)=s.length∧∀ j:Nat,(j:Int)<x+1→rd s j=(j:Int)):=⟨by have:=hx.out;omega,by have:=hx.out.2.1;omega,fun j hj=>by
          by_cases e:(j:Int)=x
          · rw [e];exact heq
          · exact hx.out.2.2 j (by omega)⟩
        have hw:wrap64 (x+1)=x+1:=by have:=hx.out.2.1;have:=hsl'.out;unfold wrap64;omega
        have hgk:Aside0 (gk - 1<gk):=⟨by have:=hx.out.2.1;omega⟩;clear heq;replace p:=eq_true p;replace hlt:=eq_true hlt;go_wp2;go_roundg (gk - 1)
        case measure=>exact hgk.out
        case rel=>exact ⟨x+1,by first|rfl|(rw [hw])|(simp [hw];done),hnx,by repeat (first|exact Drawn0.refl _|apply Drawn0.step)⟩
      · have c2:(rd s x == x)=false:=by simpa using heq
        have hno:Aside0 (decide (s=srt.upNat l0.length)=false):=⟨decide_eq_false fun e=>heq (by
          have h1:=(srt.up_iff s).mp (by rw [hsl'.out];exact e) x.toNat (by omega)
          rwa [show ((x.toNat:Nat):Int)=x by omega] at h1)⟩
        clear heq;replace p:=eq_true p;replace hlt:=eq_true hlt;go_wp2
        go_ret
        refine ⟨by rw [hno.out];rfl,?_⟩;exact Qa hbb _
    · have c1:decide (x<(s.length:Int))=false:=decide_eq_false hlt
      have hyes:Aside0 (decide (s=srt.upNat l0.length)=true):=⟨decide_eq_true (by
        rw [←hsl'.out];exact (srt.up_iff s).mpr fun j hj=>hx.out.2.2 j (by have:=hx.out.2.1;omega))⟩
      clear hlt;go_wp2
      go_ret
      refine ⟨by rw [hyes.out,Bool.true_and];first|rfl|(congr 2;done)|(simp;done),?_⟩;exact Qa hbb _
end Go.Proofs.Ytneojimdhnhkeaa.Print
namespace Go.Proofs.Ytneojimdhnhkeaa.Pure
open Go.RowKit Go.Proofs.Ytneojimdhnhkeaa.Print Go.Proofs.YtneojimdhnhkeaaW.PrintWords Go.Proofs.YtneojimdhnhkeaaW.PrintLast Go.Proofs.YtneojimdhnhkeaaW.PrintMore

def dot : List Int → List Int → Int
  | a :: tl_, b :: bs => a * b + dot tl_ bs
  | _, _ => 0
def writeAll : List Int → List Int → List Int → List Int
  | s :: ss, g :: gs, out => writeAll ss gs (out.set s.toNat g)
  | _, _, out => out

theorem nodup_sub_perm {l : List Int} : ∀ {r : List Int}, l.Nodup → (∀ x ∈ l, x ∈ r) → r.length ≤ l.length → l.Perm r := by
  induction l with
  | nil =>
    intro r _ _ hl
    obtain rfl : r = [] := List.length_eq_zero_iff.mp (by simpa using hl)
    exact List.Perm.refl _
  | cons a l ih =>
    intro r hn hs hl
    obtain ⟨h1, h2⟩ := List.nodup_cons.mp hn
    obtain ⟨p, q, rfl⟩ := List.append_of_mem (hs a (by simp))
    have : l.Perm (p ++ q) := ih h2 (fun x hx => by
      have h3 := hs x (by simp [hx])
      have hne : x ≠ a := fun e => h1 (e ▸ hx)
      simp only [List.mem_append, List.mem_cons] at h3 ⊢
      rcases h3 with h3 | h3 | h3
      · exact .inl h3
      · exact absurd h3 hne
      · exact .inr h3) (by simp at hl ⊢; omega)
    exact (this.cons a).trans List.perm_middle.symm
theorem sorted_perm_eq : ∀ {a b : List Int}, a.Pairwise (fun x y => x ≤ y) → b.Pairwise (fun x y => x ≤ y) → a.Perm b → a = b
  | [], b, _, _, hp => hp.symm.eq_nil.symm
  | x :: a, [], _, _, hp => absurd hp.eq_nil (by simp)
  | x :: a, y :: b, ha, hb, hp => by
    obtain ⟨h1, h2⟩ := List.pairwise_cons.mp ha
    obtain ⟨h3, h4⟩ := List.pairwise_cons.mp hb
    have e : x = y := by
      have m1 := hp.mem_iff.mp (List.mem_cons_self : x ∈ x :: a)
      have m2 := hp.mem_iff.mpr (List.mem_cons_self : y ∈ y :: b)
      rcases List.mem_cons.mp m1 with e | m1
      · exact e
      · rcases List.mem_cons.mp m2 with e | m2
        · exact e.symm
        · have := h1 y m2; have := h3 x m1; omega
    subst e
    rw [sorted_perm_eq h2 h4 hp.cons_inv]
def isOrd (l : List Int) (m : Int) : Prop := (l.length : Int) = m ∧ l.Perm (idx l.length)
instance (l : List Int) (m : Int) : Decidable (isOrd l m) := by unfold isOrd; infer_instance
def ordF (l : List Int) (m : Int) : Bool × Bool := if 0 ≤ m ∧ m ≤ 10 then (decide (isOrd l m), true) else (false, false)

def stepO (y : List Int) (k : Nat) : Option Nat := if k < y.length then some (rd y (k : Int)).toNat else none
def gone (F : Nat → Option Nat) (i x : Nat) : Prop := ∃ j, j < i ∧ reach F j x
def goneTo (F : Nat → Option Nat) (i m x : Nat) : Prop := gone F i x ∨ ∃ t, t < m ∧ it F t i = some x
theorem gone_lead {F : Nat → Option Nat} {i : Nat} (hF : StepInj F) (hc : onCyc F i) : ¬ gone F i i ↔ lead F i := by
  constructor
  · intro h
    refine ⟨hc, fun b hb => ?_⟩
    rcases Nat.lt_or_ge b i with hlt | hge
    · exact absurd ⟨b, hlt, (cyc_reach hc hb).2⟩ h
    · exact hge
  · rintro ⟨_, h⟩ ⟨j, hj, hr⟩
    have := h j (cyc_back hF hc hr).2
    omega
def Marks (met : List Bool) (n : Nat) (P : Nat → Prop) : Prop := met.length = n ∧ ∀ x, x < n → (rdOf false met (x : Int) = true ↔ P x)
theorem Marks.set {met : List Bool} {n : Nat} {P Q : Nat → Prop} (h : Marks met n P) (x : Nat) (hx : x < n) (hq : ∀ y, Q y ↔ P y ∨ y = x) : Marks (met.set x true) n Q := by
  refine ⟨by rw [List.length_set]; exact h.1, fun y hy => ?_⟩
  have hl := h.1
  unfold rdOf at *
  rw [Int.toNat_natCast, List.getD_eq_getElem?_getD, List.getElem?_set]
  by_cases e : x = y
  · subst e
    rw [if_pos rfl, if_pos (by omega)]
    exact ⟨fun _ => (hq x).mpr (.inr rfl), fun _ => rfl⟩
  · rw [if_neg e]
    have := h.2 y hy
    unfold rdOf at this
    rw [Int.toNat_natCast, List.getD_eq_getElem?_getD] at this
    rw [this, hq y]
    exact ⟨.inl, fun h => h.resolve_right (fun e' => e e'.symm)⟩
theorem Marks.congr {met : List Bool} {n : Nat} {P Q : Nat → Prop} (h : Marks met n P) (hq : ∀ y, P y ↔ Q y) : Marks met n Q := ⟨h.1, fun x hx => (h.2 x hx).trans (hq x)⟩
theorem Marks.none (n : Nat) (P : Nat → Prop) (hP : ∀ x, ¬ P x) : Marks (List.replicate n false) n P := by
  refine ⟨by simp, fun x hx => ?_⟩
  unfold rdOf
  rw [Int.toNat_natCast, List.getD_eq_getElem?_getD, List.getElem?_replicate, if_pos hx]
  exact ⟨fun h => (by cases h), fun h => absurd h (hP x)⟩
noncomputable def unmarked (met : List Bool) (n : Nat) : Nat := cnt (fun x => ¬ rdOf false met (x : Int) = true) n
theorem unmarked_set {met : List Bool} {n : Nat} {P : Nat → Prop} (h : Marks met n P) (x : Nat) (hx : x < n) (hn : ¬ rdOf false met (x : Int) = true) : unmarked met n = unmarked (met.set x true) n + 1 := by
  unfold unmarked
  rw [cnt_but (p := fun x => ¬ rdOf false met (x : Int) = true) hx hn]
  congr 1
  refine cnt_congr n fun y hy => ?_
  have h2 := (h.set x hx (Q := fun y => P y ∨ y = x) (fun _ => Iff.rfl)).2 y hy
  have h1 := h.2 y hy
  rw [h1, h2]
  constructor
  · rintro ⟨a, b⟩ (c | c)
    · exact a c
    · exact b c
  · intro a; exact ⟨fun c => a (.inl c), fun c => a (.inr c)⟩

noncomputable def cycSF (y : List Int) : Int × Bool := @ite _ (y.length ≤ 10 ∧ isOrd y (y.length : Int)) (Classical.propDecidable _) ((cyc (stepO y) y.length : Int), true) (0, false)

theorem slices_Index_at (l : List Int) (a : Int) (hl : l.length ≤ 1048576) (j : Nat) (hj : j < l.length) (e : rd l (j : Int) = a) (hf : ∀ i, i < j → rd l (i : Int) ≠ a) : Ev (fun k => slices_Index_int_int.f k l a) (j : Int) := by
  unfold slices_Index_int_int.f
  refine ev_up j (fun k i => slices_Index_int_int.l0 k l a (l.length : Int) (i : Int)) _ (fun _ => True) trivial ?_ ?_
  · intro _
    refine Ev.succ ?_
    simp only [slices_Index_int_int.l0]
    exact Ev.pos (by omega) (Ev.pos (by omega) (Ev.pos (by omega) (Ev.pos e.symm (Ev.now _))))
  · intro i hi _ hn
    refine Ev.succ ?_
    simp only [slices_Index_int_int.l0]
    rw [w64 (x := (i : Int) + 1) (by omega) (by omega)]
    exact Ev.pos (by omega) (Ev.pos (by omega) (Ev.pos (by omega) (Ev.neg (fun h => hf i hi h.symm) (hn trivial))))
theorem slices_Index_none (l : List Int) (a : Int) (hl : l.length ≤ 1048576) (hf : a ∉ l) : Ev (fun k => slices_Index_int_int.f k l a) (-1) := by
  unfold slices_Index_int_int.f
  refine ev_up l.length (fun k i => slices_Index_int_int.l0 k l a (l.length : Int) (i : Int)) _ (fun _ => True) trivial ?_ ?_
  · intro _
    refine Ev.succ ?_
    simp only [slices_Index_int_int.l0]
    exact Ev.neg (by omega) (Ev.now _)
  · intro i hi _ hn
    refine Ev.succ ?_
    simp only [slices_Index_int_int.l0]
    rw [w64 (x := (i : Int) + 1) (by omega) (by omega)]
    exact Ev.pos (by omega) (Ev.pos (by omega) (Ev.pos (by omega) (Ev.neg (fun h => hf (by rw [h, rd_nat _ _ hi]; exact List.getElem_mem hi)) (hn trivial))))
theorem first_index {l : List Int} {a : Int} (h : a ∈ l) : ∃ j, j < l.length ∧ rd l (j : Int) = a ∧ ∀ i, i < j → rd l (i : Int) ≠ a := by
  obtain ⟨i, hi, e⟩ := List.getElem_of_mem h
  obtain ⟨j, ⟨h1, h2⟩, hm⟩ := exists_least (p := fun j => j < l.length ∧ rd l (j : Int) = a) ⟨i, hi, by rw [rd_nat _ _ hi]; exact e⟩
  exact ⟨j, h1, h2, fun q hq e => by have := hm q ⟨by omega, e⟩; omega⟩
theorem slices_Contains_ev' (l : List Int) (a : Int) (hl : l.length ≤ 1048576) : Ev (fun k => slices_Contains_int_int.f k l a) (decide (a ∈ l)) := by
  unfold slices_Contains_int_int.f
  by_cases h : a ∈ l
  · obtain ⟨j, h1, h2, h3⟩ := first_index h
    exact Ev.bind (slices_Index_at l a hl j h1 h2 h3) (Ev.to (Ev.now _) (by rw [decide_eq_true h]; exact decide_eq_true (by omega)))
  · exact Ev.bind (slices_Index_none l a hl h) (Ev.to (Ev.now _) (by rw [decide_eq_false h]; rfl))

theorem slices_Equal_ev (a b : List Int) (hl : a.length ≤ 1048576) : Ev (fun k => slices_Equal_int_int.f k a b) (decide (a = b)) := by
  unfold slices_Equal_int_int.f
  refine Ev.ite (fun h => ?_) (fun h => ?_)
  · have hlen : a.length = b.length := by omega
    have gen : ∀ (d i : Nat), i + d = a.length → Ev (fun k => slices_Equal_int_int.l0 k a b (a.length : Int) (i : Int)) (decide (a.drop i = b.drop i)) := by
      intro d
      induction d with
      | zero =>
        intro i hi
        rw [List.drop_of_length_le (by omega), List.drop_of_length_le (by omega)]
        refine Ev.succ ?_
        simp only [slices_Equal_int_int.l0]; exact Ev.neg (by omega) (by simpa using Ev.now true)
      | succ d ih =>
        intro i hi
        have hi' : i < a.length := by omega
        have hi2 : i < b.length := by omega
        rw [List.drop_eq_getElem_cons hi', List.drop_eq_getElem_cons hi2]
        refine Ev.succ ?_
        simp only [slices_Equal_int_int.l0]
        refine Ev.pos (by omega) (Ev.pos (by omega) (Ev.pos (by omega) (Ev.pos (by omega) ?_)))
        rw [rd_nat a i hi', rd_nat b i hi2, w64n hi' (by omega)]
        refine Ev.ite (fun h => ?_) (fun h => ?_)
        · have e : decide (a[i] :: a.drop (i + 1) = b[i] :: b.drop (i + 1)) = decide (a.drop (i + 1) = b.drop (i + 1)) := by
            rw [decide_eq_decide, h]; exact ⟨fun h => (List.cons.inj h).2, fun h => by rw [h]⟩
          rw [e]; exact ih (i + 1) (by omega)
        · have e : decide (a[i] :: a.drop (i + 1) = b[i] :: b.drop (i + 1)) = false := by
            rw [decide_eq_false_iff_not]; intro h2; injection h2 with h3; exact h h3
          rw [e]; exact Ev.now _
    simpa using gen a.length 0 (by omega)
  · exact Ev.to (Ev.now _) (decide_eq_false fun e => h (by rw [e])).symm

def nz (l : List Int) : List Int := l.filter fun x => x != 0
def spotsP (l : List Int) : Prop := (2 ≤ l.length ∧ l.length ≤ 9) ∧ 0 ∈ l ∧ (∀ x ∈ l, 0 ≤ x ∧ x ≤ 20) ∧ (nz l).Nodup
instance (l : List Int) : Decidable (spotsP l) := by unfold spotsP; infer_instance
theorem spotsP_perm {a b : List Int} (h : a.Perm b) (ha : spotsP a) : spotsP b := by
  obtain ⟨h1, h2, h3, h4⟩ := ha
  exact ⟨by rw [← h.length_eq]; exact h1, h.mem_iff.mp h2, fun x hx => h3 x (h.mem_iff.mpr hx), (h.filter _).nodup_iff.mp h4⟩
theorem nz_take_succ (l : List Int) (i : Nat) (h : i < l.length) : nz (l.take (i + 1)) = nz (l.take i) ++ (if l[i] = 0 then [] else [l[i]]) := by
  unfold nz
  rw [List.take_succ_eq_append_getElem h, List.filter_append]
  congr 1
  by_cases e : l[i] = 0
  · rw [if_pos e]; simp [e]
  · rw [if_neg e]; simp [e]
theorem nz_step (l : List Int) (i : Nat) (h : i < l.length) : (nz (l.take (i + 1))).Nodup ↔ (nz (l.take i)).Nodup ∧ (l[i] = 0 ∨ l[i] ∉ l.take i) := by
  rw [nz_take_succ l i h]
  by_cases e : l[i] = 0
  · rw [if_pos e, List.append_nil]; exact ⟨fun q => ⟨q, .inl e⟩, fun q => q.1⟩
  · rw [if_neg e]
    constructor
    · intro q
      obtain ⟨q1, _, q3⟩ := List.pairwise_append.mp q
      exact ⟨q1, .inr fun hm => q3 _ (List.mem_filter.mpr ⟨hm, by simp [e]⟩) _ (by simp) rfl⟩
    · rintro ⟨q1, q2⟩
      refine List.pairwise_append.mpr ⟨q1, by simp, fun a ha b hb hab => ?_⟩
      have hb' : b = l[i] := by simpa using hb
      refine (q2.resolve_left e) ?_
      rw [← hb', ← hab]; exact (List.mem_filter.mp ha).1
theorem nz_nodup_take {l : List Int} (h : (nz l).Nodup) (i : Nat) : (nz (l.take i)).Nodup := h.sublist ((List.take_sublist _ _).filter _)
def gd_ (l : List Int) (k : Nat) : Int := rd l (k : Int)
theorem spots_sp {l : List Int} (h : (nz l).Nodup) : Sp (gd_ l) l.length := by
  have key : ∀ i j, i < j → j < l.length → gd_ l i ≠ 0 → gd_ l i = gd_ l j → False := fun i j hij hj h0 e => by
    unfold gd_ at h0 e
    rw [rd_nat _ _ hj] at e
    rw [rd_nat _ _ (by omega)] at e h0
    have := ((nz_step l j hj).mp (nz_nodup_take h (j + 1))).2
    rcases this with h1 | h1
    · exact h0 (e.trans h1)
    · exact h1 (by rw [← e]; exact List.mem_take_iff_getElem.mpr ⟨i, by omega, rfl⟩)
  intro i j hi hj h0 e
  rcases Nat.lt_trichotomy i j with h1 | h1 | h1
  · exact (key i j h1 hj h0 e).elim
  · exact h1
  · exact (key j i h1 hi (by rw [← e]; exact h0) e.symm).elim
def alikeP (a b : List Int) : Prop := spotsP a ∧ spotsP b ∧ a.Perm b
instance (a b : List Int) : Decidable (alikeP a b) := by unfold alikeP; infer_instance
theorem alikeP_symm {a b : List Int} (h : alikeP a b) : alikeP b a := ⟨h.2.1, h.1, h.2.2.symm⟩
theorem alike_of {a b : List Int} (h : alikeP a b) : b.length = a.length ∧ Alike (gd_ a) (gd_ b) a.length := by
  obtain ⟨h1, h2, hp⟩ := h
  have hl := hp.length_eq
  have mem : ∀ {x y : List Int}, x.Perm y → ∀ i, i < x.length → gd_ x i ≠ 0 → ∃ j, j < y.length ∧ gd_ y j = gd_ x i := fun {x y} hp i hi _ => by
    have hm := hp.mem_iff.mp (List.getElem_mem hi)
    obtain ⟨j, hj, e⟩ := List.getElem_of_mem hm
    exact ⟨j, hj, by unfold gd_; rw [rd_nat _ _ hj, rd_nat _ _ hi]; exact e⟩
  have hs := spots_sp h2.2.2.2
  rw [← hl] at hs
  refine ⟨hl.symm, spots_sp h1.2.2.2, hs, fun i hi h0 => ?_, fun j hj h0 => ?_⟩
  · obtain ⟨j, hj, e⟩ := mem hp i hi h0; exact ⟨j, by omega, e⟩
  · obtain ⟨i, hi, e⟩ := mem hp.symm j (by omega) h0; exact ⟨i, hi, e⟩
theorem nodup_sub_len {l r : List Int} (h : l.Nodup) (hs : ∀ x ∈ l, x ∈ r) : l.length ≤ r.length := by
  induction l generalizing r with
  | nil => simp
  | cons a l ih =>
    obtain ⟨h1, h2⟩ := List.nodup_cons.mp h
    obtain ⟨p, q, rfl⟩ := List.append_of_mem (hs a (by simp))
    have := ih (r := p ++ q) h2 (fun x hx => by
      have h3 := hs x (by simp [hx])
      have hne : x ≠ a := fun e => h1 (e ▸ hx)
      simp only [List.mem_append, List.mem_cons] at h3 ⊢
      rcases h3 with h3 | h3 | h3
      · exact .inl h3
      · exact absurd h3 hne
      · exact .inr h3)
    simp at this ⊢; omega
theorem perm_of_same {a b : List Int} (ha : (nz a).Nodup) (hb : (nz b).Nodup) (hl : a.length = b.length) (h1 : ∀ x ∈ a, x ∈ b) (h2 : ∀ x ∈ b, x ∈ a) : a.Perm b := by
  have m1 : ∀ x ∈ nz a, x ∈ nz b := fun x hx => List.mem_filter.mpr ⟨h1 x (List.mem_filter.mp hx).1, (List.mem_filter.mp hx).2⟩
  have m2 : ∀ x ∈ nz b, x ∈ nz a := fun x hx => List.mem_filter.mpr ⟨h2 x (List.mem_filter.mp hx).1, (List.mem_filter.mp hx).2⟩
  have p1 : (nz a).Perm (nz b) := nodup_sub_perm ha m1 (nodup_sub_len hb m2)
  have z : ∀ l : List Int, (l.filter fun x => !(x != 0)) = List.replicate (l.filter fun x => !(x != 0)).length 0 := fun l => List.eq_replicate_of_mem fun x hx => by
    have := (List.mem_filter.mp hx).2
    simpa using this
  have e1 := (List.filter_append_perm (fun x : Int => x != 0) a)
  have e2 := (List.filter_append_perm (fun x : Int => x != 0) b)
  have l1 := e1.length_eq
  have l2 := e2.length_eq
  have l3 := p1.length_eq
  rw [List.length_append] at l1 l2
  have zl : (a.filter fun x => !(x != 0)) = (b.filter fun x => !(x != 0)) := by
    rw [z a, z b]
    congr 1
    unfold nz at l3
    omega
  refine e1.symm.trans (List.Perm.trans ?_ e2)
  rw [zl]
  exact p1.append_right _
theorem set_swap_perm (l : List Int) (i k : Nat) (hi : i < l.length) (hk : k < l.length) : ((l.set i l[k]).set k l[i]).Perm l := by
  rw [List.perm_iff_count]
  intro x
  by_cases e : i = k
  · subst e
    have : (l.set i l[i]).set i l[i] = l := by rw [List.set_set, List.set_getElem_self]
    rw [this]
  · rw [List.count_set (by simpa using hk), List.count_set hi]
    have e1 : (l.set i l[k])[k]'(by simpa using hk) = l[k] := by rw [List.getElem_set_ne e]
    rw [e1]
    have c1 : (if l[i] == x then 1 else 0) ≤ l.count x := by
      split
      · rename_i h
        have : x ∈ l := by have := eq_of_beq h; rw [← this]; exact List.getElem_mem hi
        exact List.count_pos_iff.mpr this
      · omega
    omega

theorem impl_GoodSpots_ev (l : List Int) (hl : l.length ≤ 1048576) : Ev (fun k => impl_GoodSpots.f k l) (decide (spotsP l)) := by
  unfold impl_GoodSpots.f
  refine ev_up l.length (fun k i => impl_GoodSpots.l0 k l l (l.length : Int) (i : Int)) _ (fun i => (nz (l.take i)).Nodup) (by simp [nz]) ?_ ?_
  · intro hI
    rw [List.take_length] at hI
    refine Ev.succ ?_
    simp only [impl_GoodSpots.l0]
    refine Ev.neg (by omega) (Ev.bind0 (impl_within_eq _ _ _) (Ev.ite (fun h1 => Ev.bind (impl_allWithin_ev l 0 20 (by omega)) (Ev.ite (fun h2 => Ev.bind (slices_Contains_ev' l 0 hl) (Ev.to (Ev.now _) ?_)) (fun h2 => Ev.to (Ev.now _) ?_))) (fun h1 => Ev.to (Ev.now _) ?_)))
    · have h1' : 2 ≤ (l.length : Int) ∧ (l.length : Int) ≤ 9 := by simpa using h1
      have h2' := (allIn_iff _ _ _).mp h2
      exact decide_eq_decide.mpr ⟨fun q => ⟨by omega, q, h2', hI⟩, fun q => q.2.1⟩
    · exact (decide_eq_false fun q => h2 ((allIn_iff _ _ _).mpr q.2.2.1)).symm
    · refine (decide_eq_false fun q => h1 ?_).symm
      have := q.1
      simp only [Bool.and_eq_true, decide_eq_true_eq]; omega
  · intro i hi hI hn
    refine Ev.succ ?_
    simp only [impl_GoodSpots.l0]
    rw [rd_nat _ _ hi, w64 (x := (i : Int) + 1) (by omega) (by omega), toNat_nat]
    refine Ev.pos (by omega) (Ev.pos (by omega) (Ev.pos (by omega) (Ev.ite (fun h0 => hn ((nz_step l i hi).mpr ⟨hI, .inl h0⟩)) (fun h0 => Ev.pos (by omega) (Ev.bind (slices_Contains_ev' _ _ (by rw [List.length_take]; omega)) (Ev.ite (fun hc => ?_) (fun hc => ?_)))))))
    · refine Ev.to (Ev.now _) (decide_eq_false fun q => ?_).symm
      have := ((nz_step l i hi).mp (nz_nodup_take q.2.2.2 (i + 1))).2
      exact (this.resolve_left h0) (by simpa using hc)
    · exact hn ((nz_step l i hi).mpr ⟨hI, .inr (by simpa using hc)⟩)

theorem spec_GoodSpots_ev (l : List Int) (hl : l.length ≤ 1048576) : Ev (fun k => spec_GoodSpots.f k l) (decide (spotsP l)) := by
  unfold spec_GoodSpots.f
  refine Ev.bind0 (spec_l1In_eq _ _ _) (Ev.ite (fun h1 => Ev.bind (spec_l1Has_ev l 0 (by omega)) (Ev.ite (fun h2 => Ev.bind (spec_l1All_ev l 0 20 (by omega)) (Ev.succ ?_)) (fun h2 => Ev.succ ?_))) (fun h1 => Ev.succ ?_))
  · simp only [spec_GoodSpots.j0]
    refine Ev.ite (fun h3 => ?_) (fun h3 => ?_)
    · refine Ev.to (Ev.now _) (decide_eq_false fun q => ?_).symm
      rw [(allIn_iff _ _ _).mpr q.2.2.1] at h3; simp at h3
    have h3' : allIn l 0 20 = true := by simpa using h3
    have h1' : 2 ≤ (l.length : Int) ∧ (l.length : Int) ≤ 9 := by simpa using h1
    have h2' : (0 : Int) ∈ l := by simpa using h2
    have hA := (allIn_iff _ _ _).mp h3'
    refine ev_up l.length (fun k i => spec_GoodSpots.l0 k l l (l.length : Int) (i : Int)) _ (fun i => (nz (l.take i)).Nodup) (by simp [nz]) ?_ ?_
    · intro hI
      rw [List.take_length] at hI
      refine Ev.succ ?_
      simp only [spec_GoodSpots.l0]
      exact Ev.neg (by omega) (Ev.to (Ev.now _) (decide_eq_true ⟨by omega, h2', hA, hI⟩).symm)
    · intro i hi hI hn
      have hx := hA l[i] (List.getElem_mem hi)
      refine Ev.succ ?_
      simp only [spec_GoodSpots.l0]
      rw [rd_nat _ _ hi, w64 (x := (i : Int) + 1) (by omega) (by omega), toNat_nat]
      refine Ev.pos (by omega) (Ev.pos (by omega) (Ev.pos (by omega) (Ev.ite (fun h0 => Ev.pos (by omega) (Ev.bind (spec_l1Has_ev _ _ (by rw [List.length_take]; omega)) (Ev.ite (fun hc => ?_) (fun hc => ?_)))) (fun h0 => hn ((nz_step l i hi).mpr ⟨hI, .inl (by omega)⟩)))))
      · refine Ev.to (Ev.now _) (decide_eq_false fun q => ?_).symm
        have := ((nz_step l i hi).mp (nz_nodup_take q.2.2.2 (i + 1))).2
        exact (this.resolve_left (by omega)) (by simpa using hc)
      · exact hn ((nz_step l i hi).mpr ⟨hI, .inr (by simpa using hc)⟩)
  · simp only [spec_GoodSpots.j0]
    exact Ev.pos trivial (Ev.to (Ev.now _) (decide_eq_false fun q => h2 (decide_eq_true q.2.1)).symm)
  · simp only [spec_GoodSpots.j0]
    refine Ev.pos trivial (Ev.to (Ev.now _) (decide_eq_false fun q => h1 ?_).symm)
    have := q.1
    simp only [Bool.and_eq_true, decide_eq_true_eq]; omega

theorem srt_eq_iff (a b : List Int) : srt.sorted a = srt.sorted b ↔ a.Perm b := by
  have hp : ∀ l, (srt.sorted l).Perm l := fun l => List.mergeSort_perm _ _
  have hs : ∀ l, (srt.sorted l).Pairwise (fun x y => x ≤ y) := fun l => by
    have := List.pairwise_mergeSort (le := fun x y : Int => decide (x ≤ y)) (fun a b c h1 h2 => by simp only [decide_eq_true_eq] at h1 h2 ⊢; omega) (fun a b => by simp only [Bool.or_eq_true, decide_eq_true_eq]; omega) l
    exact this.imp (fun h => by simpa using h)
  constructor
  · intro h; exact (hp a).symm.trans (by rw [h]; exact hp b)
  · intro h; exact sorted_perm_eq (hs a) (hs b) ((hp a).trans (h.trans (hp b).symm))
theorem impl_areAlike_ev (a b : List Int) (ha : a.length ≤ 1048576) (hb : b.length ≤ 1048576) : Ev (fun k => impl_areAlike.f k a b) (decide (alikeP a b)) := by
  unfold impl_areAlike.f
  refine Ev.bind (impl_GoodSpots_ev a ha) (Ev.ite (fun h1 => Ev.bind (impl_GoodSpots_ev b hb) (Ev.ite (fun h2 => ?_) (fun h2 => ?_))) (fun h1 => ?_))
  · refine Ev.pos ha (Ev.pos hb (Ev.to (slices_Equal_ev _ _ (by show (List.mergeSort _ _).length ≤ _; rw [List.length_mergeSort]; exact ha)) ?_))
    exact decide_eq_decide.mpr ⟨fun q => ⟨of_decide_eq_true h1, of_decide_eq_true h2, (srt_eq_iff a b).mp q⟩, fun q => (srt_eq_iff a b).mpr q.2.2⟩
  · exact Ev.to (Ev.now _) (decide_eq_false fun q => h2 (decide_eq_true q.2.1)).symm
  · exact Ev.to (Ev.now _) (decide_eq_false fun q => h1 (decide_eq_true q.1)).symm

theorem spec_l10Both_ev (a b : List Int) (ha : a.length ≤ 1048576) (hb : b.length ≤ 1048576) : Ev (fun k => spec_l10Both.f k a b) (decide (alikeP a b)) := by
  unfold spec_l10Both.f
  refine Ev.bind (spec_GoodSpots_ev a ha) (Ev.ite (fun h1 => Ev.bind (spec_GoodSpots_ev b hb) (Ev.ite (fun h2 => Ev.succ ?_) (fun h2 => Ev.succ ?_))) (fun h1 => Ev.succ ?_))
  · simp only [spec_l10Both.j0]
    have h1 := of_decide_eq_true h1
    have h2 := of_decide_eq_true h2
    refine Ev.ite (fun h3 => ?_) (fun h3 => ?_)
    · refine Ev.to (Ev.now _) (decide_eq_false fun q => ?_).symm
      have := q.2.2.length_eq
      simp at h3; omega
    have hl : a.length = b.length := by simp at h3; omega
    refine ev_up a.length (fun k i => spec_l10Both.l0 k a b a (a.length : Int) (i : Int)) _ (fun i => ∀ x ∈ a.take i, x ∈ b) (by simp) ?_ ?_
    · intro hI
      rw [List.take_length] at hI
      refine Ev.succ ?_
      simp only [spec_l10Both.l0]
      refine Ev.neg (by omega) ?_
      refine ev_up b.length (fun k i => spec_l10Both.l1 k a b (b.length : Int) (i : Int)) _ (fun i => ∀ x ∈ b.take i, x ∈ a) (by simp) ?_ ?_
      · intro hJ
        rw [List.take_length] at hJ
        refine Ev.succ ?_
        simp only [spec_l10Both.l1]
        exact Ev.neg (by omega) (Ev.to (Ev.now _) (decide_eq_true ⟨h1, h2, perm_of_same h1.2.2.2 h2.2.2.2 hl hI hJ⟩).symm)
      · intro i hi hJ hn
        refine Ev.succ ?_
        simp only [spec_l10Both.l1]
        rw [rd_nat _ _ hi, w64 (x := (i : Int) + 1) (by omega) (by omega)]
        refine Ev.pos (by omega) (Ev.pos (by omega) (Ev.pos (by omega) (Ev.bind (spec_l1Has_ev _ _ (by omega)) (Ev.ite (fun h => hn fun x hx => ?_) (fun h => ?_)))))
        · rw [List.take_succ_eq_append_getElem hi] at hx
          rcases List.mem_append.mp hx with hx | hx
          · exact hJ x hx
          · have e : x = b[i] := by simpa using hx
            rw [e]; simpa using h
        · refine Ev.to (Ev.now _) (decide_eq_false fun q => h (decide_eq_true ?_)).symm
          exact q.2.2.mem_iff.mpr (List.getElem_mem hi)
    · intro i hi hI hn
      refine Ev.succ ?_
      simp only [spec_l10Both.l0]
      rw [rd_nat _ _ hi, w64 (x := (i : Int) + 1) (by omega) (by omega)]
      refine Ev.pos (by omega) (Ev.pos (by omega) (Ev.pos (by omega) (Ev.bind (spec_l1Has_ev _ _ (by omega)) (Ev.ite (fun h => hn fun x hx => ?_) (fun h => ?_)))))
      · rw [List.take_succ_eq_append_getElem hi] at hx
        rcases List.mem_append.mp hx with hx | hx
        · exact hI x hx
        · have e : x = a[i] := by simpa using hx
          rw [e]; simpa using h
      · refine Ev.to (Ev.now _) (decide_eq_false fun q => h (decide_eq_true ?_)).symm
        exact q.2.2.mem_iff.mp (List.getElem_mem hi)
  · simp only [spec_l10Both.j0]
    exact Ev.pos trivial (Ev.to (Ev.now _) (decide_eq_false fun q => h2 (decide_eq_true q.2.1)).symm)
  · simp only [spec_l10Both.j0]
    exact Ev.pos trivial (Ev.to (Ev.now _) (decide_eq_false fun q => h1 (decide_eq_true q.1)).symm)

def stepG (A W : Nat → Int) (n k : Nat) : Option Nat := if W k = A k then none else stepF A W n k
theorem stepG_sub {A W : Nat → Int} {n k b : Nat} (h : stepG A W n k = some b) : stepF A W n k = some b ∧ W k ≠ A k := by
  unfold stepG at h
  by_cases e : W k = A k
  · rw [if_pos e] at h; cases h
  · rw [if_neg e] at h; exact ⟨h, e⟩
theorem stepG_inj {A W : Nat → Int} {n : Nat} (h : Alike A W n) : StepInj (stepG A W n) := fun a b c ha hb => (stepF_turned h).inj a b c (stepG_sub ha).1 (stepG_sub hb).1
theorem stepG_within {A W : Nat → Int} {n : Nat} (h : Alike A W n) : Within (stepG A W n) n := fun a b hab => stepF_within h.sw a b (stepG_sub hab).1
theorem stepG_iter {A W : Nat → Int} {n : Nat} : ∀ m a b, it (stepG A W n) m a = some b → it (stepF A W n) m a = some b
  | 0, a, b, h => h
  | m + 1, a, b, h => by
    simp only [it, Option.bind_eq_some_iff] at h ⊢
    obtain ⟨c, hc, h⟩ := h
    exact ⟨c, (stepG_sub hc).1, stepG_iter m c b h⟩
theorem stepG_lead {A W : Nat → Int} {n : Nat} (h : Alike A W n) (k : Nat) : (lead (stepF A W n) k ∧ stepF A W n k ≠ some k) ↔ lead (stepG A W n) k := by
  constructor
  · rintro ⟨⟨hc, hl⟩, hne⟩
    have same : ∀ m, it (stepG A W n) m k = it (stepF A W n) m k := by
      intro m
      induction m with
      | zero => rfl
      | succ m ih =>
        rw [it_succ, it_succ, ih]
        cases hb : it (stepF A W n) m k with
        | none => rfl
        | some b =>
          show stepG A W n b = stepF A W n b
          unfold stepG
          rw [if_neg]
          intro e
          obtain ⟨hcb, hbk⟩ := cyc_reach hc ⟨m, hb⟩
          obtain ⟨c, hc'⟩ := cyc_some hcb
          have h1 := (stepF_iff h.sw b c).mp hc'
          have hfix : stepF A W n b = some b := (stepF_iff h.sw b b).mpr ⟨h1.1, h1.2.1, h1.1, e⟩
          obtain ⟨q, hq⟩ := hbk
          have stay : ∀ q, it (stepF A W n) q b = some b := by
            intro q
            induction q with
            | zero => rfl
            | succ q ih => rw [it, hfix]; exact ih
          rw [stay] at hq
          have : b = k := Option.some.inj hq
          rw [this] at hfix
          exact hne hfix
    refine ⟨?_, fun b ⟨m, hm⟩ => hl b ⟨m, by rw [← same]; exact hm⟩⟩
    obtain ⟨m, hm⟩ := hc
    exact ⟨m, by rw [same]; exact hm⟩
  · rintro ⟨hc, hl⟩
    obtain ⟨b, hb⟩ := cyc_some hc
    have hs := stepG_sub hb
    have hcF : onCyc (stepF A W n) k := by obtain ⟨m, hm⟩ := hc; exact ⟨m, stepG_iter _ _ _ hm⟩
    refine ⟨⟨hcF, fun c ⟨m, hm⟩ => ?_⟩, fun e => ?_⟩
    · have hd : ∀ m, ∃ c, it (stepG A W n) m k = some c := by
        intro m
        induction m with
        | zero => exact ⟨k, rfl⟩
        | succ m ih =>
          obtain ⟨c, hc'⟩ := ih
          obtain ⟨d, hd⟩ := cyc_some (cyc_reach hc ⟨m, hc'⟩).1
          exact ⟨d, by rw [it_succ, hc']; exact hd⟩
      obtain ⟨c', hc'⟩ := hd m
      have := stepG_iter _ _ _ hc'
      rw [hm] at this
      have e : c = c' := Option.some.inj this
      exact hl c ⟨m, by rw [e]; exact hc'⟩
    · have := ((stepF_iff h.sw k k).mp e).2.2.2
      exact hs.2 this
theorem ringN_G {A W : Nat → Int} {n : Nat} (h : Alike A W n) : ringN A W n = cnt (lead (stepG A W n)) n := cnt_congr n fun k _ => stepG_lead h k
def markG (G : Nat → Option Nat) (i y : Nat) : Prop := gone G i y ∧ ∃ b, G y = some b
def onWay (G : Nat → Option Nat) (i m y : Nat) : Prop := markG G i y ∨ ∃ t, t < m ∧ it G t i = some y
structure Walk (G : Nat → Option Nat) (n i m x : Nat) (met : List Bool) : Prop where
  hx : it G m i = some x
  hM : Marks met n (onWay G i m)
  hs : ∀ s, 0 < s → s < m → it G s i ≠ some i
  h0 : 0 < m → ¬ markG G i i
theorem onWay_succ (G : Nat → Option Nat) (i m x : Nat) (hx : it G m i = some x) : ∀ y, onWay G i (m + 1) y ↔ onWay G i m y ∨ y = x := fun y => by
  constructor
  · rintro (h | ⟨t, ht, h⟩)
    · exact .inl (.inl h)
    · rcases Nat.lt_or_ge t m with h1 | h1
      · exact .inl (.inr ⟨t, h1, h⟩)
      · obtain rfl : t = m := by omega
        rw [hx] at h; exact .inr (Option.some.inj h).symm
  · rintro ((h | ⟨t, ht, h⟩) | h)
    · exact .inl h
    · exact .inr ⟨t, by omega, h⟩
    · exact .inr ⟨m, by omega, by rw [hx, h]⟩
theorem Walk.start {G : Nat → Option Nat} {n i : Nat} {met : List Bool} (h : Marks met n (markG G i)) : Walk G n i 0 i met :=
  ⟨rfl, h.congr fun y => ⟨.inl, fun q => q.resolve_right (fun ⟨t, ht, _⟩ => by omega)⟩, fun s h1 h2 => by omega, fun h => by omega⟩
theorem Walk.step {G : Nat → Option Nat} {n i m x b : Nat} {met : List Bool} (h : Walk G n i m x met) (hxl : x < n) (hb : G x = some b) (hm : ¬ rdOf false met (x : Int) = true) : Walk G n i (m + 1) b (met.set x true) := by
  have hnw : ¬ onWay G i m x := fun q => hm ((h.hM.2 x hxl).mpr q)
  refine ⟨by rw [it_succ, h.hx]; exact hb, h.hM.set x hxl (onWay_succ G i m x h.hx), fun s h1 h2 e => ?_, fun _ hg => ?_⟩
  · rcases Nat.lt_or_ge s m with h3 | h3
    · exact h.hs s h1 h3 e
    · obtain rfl : s = m := by omega
      rw [h.hx] at e
      have e' : x = i := Option.some.inj e
      exact hnw (.inr ⟨0, h1, by rw [e']; rfl⟩)
  · rcases Nat.eq_zero_or_pos m with h3 | h3
    · subst h3
      have e : x = i := by have := h.hx; simp only [it, Option.some.injEq] at this; omega
      subst e
      exact hnw (.inl hg)
    · exact h.h0 h3 hg
theorem Walk.fin {G : Nat → Option Nat} {n i m x : Nat} {met : List Bool} (h : Walk G n i m x met) (hG : StepInj G) (hxl : x < n) (he : G x = none ∨ rdOf false met (x : Int) = true) :
    Marks met n (markG G (i + 1)) ∧ (lead G i ↔ 0 < m ∧ x = i) := by
  have hx := h.hx
  -- what has been walked can be left
  have some_ : ∀ t y, t < m → it G t i = some y → ∃ b, G y = some b := fun t y ht hy => by
    obtain ⟨d, rfl⟩ : ∃ d, m = t + (d + 1) := ⟨m - t - 1, by omega⟩
    rw [it_add, hy] at hx
    cases hb : G y with
    | none =>
      have hx' : it G (d + 1) y = some x := hx
      rw [it, hb] at hx'; cases hx'
    | some b => exact ⟨b, rfl⟩
  have up : ∀ y, onWay G i m y → markG G (i + 1) y := fun y hy => by
    rcases hy with ⟨⟨j, hj, hr⟩, hs⟩ | ⟨t, ht, hy⟩
    · exact ⟨⟨j, by omega, hr⟩, hs⟩
    · exact ⟨⟨i, by omega, t, hy⟩, some_ t y ht hy⟩
  have old : ∀ y, (∀ s, it G s i = some y → (∃ b, G y = some b) → onWay G i m y) → markG G (i + 1) y → onWay G i m y := fun y hall hy => by
    obtain ⟨⟨j, hj, s, hs⟩, hb⟩ := hy
    rcases Nat.lt_or_ge j i with h1 | h1
    · exact .inl ⟨⟨j, h1, s, hs⟩, hb⟩
    · obtain rfl : j = i := by omega
      exact hall s hs hb
  by_cases hn : G x = none
  · -- the walk's end
    have ncyc : ¬ onCyc G i := fun hc => by
      obtain ⟨b, hb⟩ := cyc_some (cyc_reach hc ⟨m, hx⟩).1
      rw [hn] at hb; cases hb
    refine ⟨h.hM.congr fun y => ⟨up y, old y fun s hs hb => ?_⟩, ⟨fun hl => absurd hl.1 ncyc, fun ⟨hm0, e⟩ => ?_⟩⟩
    · rcases Nat.lt_or_ge s m with h1 | h1
      · exact .inr ⟨s, h1, hs⟩
      · rcases Nat.eq_or_lt_of_le h1 with h2 | h2
        · rw [← h2, hx] at hs
          have : x = y := Option.some.inj hs
          subst this
          obtain ⟨b, hb⟩ := hb
          rw [hn] at hb; cases hb
        · obtain ⟨d, rfl⟩ : ∃ d, s = m + (d + 1) := ⟨s - m - 1, by omega⟩
          rw [it_add, hx] at hs
          have hs' : it G (d + 1) x = some y := hs
          rw [it, hn] at hs'; cases hs'
    · subst e
      obtain ⟨m', rfl⟩ : ∃ m', m = m' + 1 := ⟨m - 1, by omega⟩
      exact absurd ⟨m', hx⟩ ncyc
  · have hmk := he.resolve_left hn
    rcases (h.hM.2 x hxl).mp hmk with hg | ⟨t, ht, hxt⟩
    · -- met on another one's walk
      obtain ⟨⟨j, hj, hr⟩, hsx⟩ := hg
      rcases Nat.eq_zero_or_pos m with hm0 | hm0
      · subst hm0
        have e : x = i := by simp only [it, Option.some.injEq] at hx; omega
        subst e
        refine ⟨h.hM.congr fun y => ⟨up y, old y fun s hs hb => .inl ⟨⟨j, hj, reach_trans hr ⟨s, hs⟩⟩, hb⟩⟩, ⟨fun hl => ?_, fun q => by omega⟩⟩
        exact absurd ⟨j, hj, hr⟩ ((gone_lead hG hl.1).mpr hl)
      · have hni := h.h0 hm0
        have hsi : ∃ b, G i = some b := some_ 0 i hm0 rfl
        refine ⟨h.hM.congr fun y => ⟨up y, old y fun s hs hb => ?_⟩, ⟨fun hl => ?_, fun q => ?_⟩⟩
        · rcases Nat.lt_or_ge s m with h1 | h1
          · exact .inr ⟨s, h1, hs⟩
          · obtain ⟨d, rfl⟩ : ∃ d, s = m + d := ⟨s - m, by omega⟩
            rw [it_add, hx] at hs
            exact .inl ⟨⟨j, hj, reach_trans hr ⟨d, hs⟩⟩, hb⟩
        · exact absurd ⟨⟨j, hj, reach_trans hr (cyc_reach hl.1 ⟨m, hx⟩).2⟩, hsi⟩ hni
        · exact absurd ⟨⟨j, hj, by rw [← q.2]; exact hr⟩, hsi⟩ hni
    · -- back where the walk has been
      have hback : it G (m - t) i = some i := by
        obtain ⟨d, rfl⟩ : ∃ d, m = d + t := ⟨m - t, by omega⟩
        rw [it_add] at hx
        cases hc : it G d i with
        | none => rw [hc] at hx; cases hx
        | some c =>
          rw [hc] at hx
          have := it_inj hG t c i x hx hxt
          rw [show d + t - t = d by omega, hc, this]
      have ht0 : t = 0 := by
        rcases Nat.eq_zero_or_pos t with h1 | h1
        · exact h1
        · exact absurd hback (h.hs (m - t) (by omega) (by omega))
      subst ht0
      have e : x = i := by simp only [it, Option.some.injEq] at hxt; omega
      subst e
      have hc : onCyc G x := by
        obtain ⟨m', rfl⟩ : ∃ m', m = m' + 1 := ⟨m - 1, by omega⟩
        exact ⟨m', hx⟩
      have hsx := cyc_some hc
      have hng : ¬ gone G x x := fun q => h.h0 (by omega) ⟨q, hsx⟩
      refine ⟨h.hM.congr fun y => ⟨up y, old y fun s hs hb => ?_⟩, ⟨fun _ => ⟨by omega, rfl⟩, fun _ => (gone_lead hG hc).mp hng⟩⟩
      have all : ∀ s y, it G s x = some y → ∃ t, t < m ∧ it G t x = some y := by
        intro s
        induction s using Nat.strongRecOn with
        | ind s ih =>
          intro y hy
          rcases Nat.lt_or_ge s m with h1 | h1
          · exact ⟨s, h1, hy⟩
          · obtain ⟨d, rfl⟩ : ∃ d, s = m + d := ⟨s - m, by omega⟩
            rw [it_add, hx] at hy
            exact ih d (by omega) y hy
      exact .inr (all s y hs)
noncomputable def ringSF (a b : List Int) : Int × Int × Bool := if alikeP a b then ((awayN (gd_ a) (gd_ b) a.length : Int), (ringN (gd_ a) (gd_ b) a.length : Int), true) else (0, 0, false)
noncomputable def needSF (a b : List Int) : Int × Bool := if alikeP a b then ((needN (gd_ a) (gd_ b) a.length : Int), true) else (0, false)
theorem spots_nonneg {l : List Int} (h : spotsP l) (k : Nat) (hk : k < l.length) : 0 ≤ gd_ l k := by
  unfold gd_; rw [rd_nat _ _ hk]; exact (h.2.2.1 _ (List.getElem_mem hk)).1
theorem want_first {a b : List Int} (h : alikeP a b) {k j : Nat} (hs : stepF (gd_ a) (gd_ b) a.length k = some j) : j < b.length ∧ rd b (j : Int) = rd a (k : Int) ∧ ∀ i, i < j → rd b (i : Int) ≠ rd a (k : Int) := by
  obtain ⟨hl, hA⟩ := alike_of h
  have h1 := (stepF_iff hA.sw k j).mp hs
  refine ⟨by omega, h1.2.2.2, fun i hi e => ?_⟩
  have := hA.sw i j (by omega) h1.2.2.1 (by rw [show gd_ b i = rd a (k : Int) from e]; exact h1.2.1) (e.trans h1.2.2.2.symm)
  omega
theorem stepG_of {a b : List Int} (h : alikeP a b) {k : Nat} (hk : k < a.length) (h0 : rd a (k : Int) ≠ 0) (hw : rd b (k : Int) ≠ rd a (k : Int)) : ∃ j, stepG (gd_ a) (gd_ b) a.length k = some j ∧ stepF (gd_ a) (gd_ b) a.length k = some j ∧ j < a.length := by
  obtain ⟨hl, hA⟩ := alike_of h
  obtain ⟨j, hj, e⟩ := hA.there k hk h0
  have hf := (stepF_iff hA.sw k j).mpr ⟨hk, h0, hj, e⟩
  refine ⟨j, ?_, hf, hj⟩
  unfold stepG; rw [if_neg (show ¬ gd_ b k = gd_ a k from hw)]; exact hf
theorem stepG_end {a b : List Int} {k : Nat} (h : rd a (k : Int) = 0 ∨ rd b (k : Int) = rd a (k : Int)) : stepG (gd_ a) (gd_ b) a.length k = none := by
  unfold stepG
  rcases h with h | h
  · rw [stepF_none (k := k) h]; split <;> rfl
  · rw [if_pos (show gd_ b k = gd_ a k from h)]

theorem impl_walk_ev {a b : List Int} (h : alikeP a b) (i : Nat) (hi : i < a.length) (w c : Int) (hc : 0 ≤ c ∧ c ≤ 100) (r : Int × Int × Bool)
    (hn : ∀ met, Marks met a.length (markG (stepG (gd_ a) (gd_ b) a.length) (i + 1)) → Ev (fun k => impl_RingsOf.l1 k a b w (c + (b2 (lead (stepG (gd_ a) (gd_ b) a.length) i) : Int)) met (a.length : Int) ((i + 1 : Nat) : Int)) r) :
    ∀ (d : Nat) (met : List Bool) (m x : Nat), unmarked met a.length = d → m + d ≤ 20 → Walk (stepG (gd_ a) (gd_ b) a.length) a.length i m x met → Ev (fun k => impl_RingsOf.l2 k a b w c met (i : Int) (x : Int) (m : Int) (a.length : Int) (i : Int)) r := by
  obtain ⟨hl, hA⟩ := alike_of h
  have h9 := h.1.1
  intro d
  induction d using Nat.strongRecOn with
  | ind d ih =>
    intro met m x hd hmd hW
    have hxl : x < a.length := it_within (stepG_within hA) hi m hW.hx
    have hml := hW.hM.1
    -- where the walk ends
    have fin : (stepG (gd_ a) (gd_ b) a.length x = none ∨ rdOf false met (x : Int) = true) → Ev (fun k => if (m : Int) > 0 then (if (x : Int) = (i : Int) then (impl_RingsOf.l1 k a b w (wrap64 (c + 1)) met (a.length : Int) (wrap64 ((i : Int) + 1))) else (impl_RingsOf.l1 k a b w c met (a.length : Int) (wrap64 ((i : Int) + 1)))) else (impl_RingsOf.l1 k a b w c met (a.length : Int) (wrap64 ((i : Int) + 1)))) r := fun he => by
      obtain ⟨f1, f2⟩ := hW.fin (stepG_inj hA) hxl he
      have hn' := hn met f1
      rw [w64 (x := (i : Int) + 1) (by omega) (by omega), w64 (x := c + 1) (by omega) (by omega)]
      refine Ev.ite (fun h1 => Ev.ite (fun h2 => ?_) (fun h2 => ?_)) (fun h1 => ?_)
      · rw [b2_pos (f2.mpr ⟨by omega, by omega⟩)] at hn'; exact hn'
      · rw [b2_neg (fun q => h2 (by have := (f2.mp q).2; omega))] at hn'; simpa using hn'
      · rw [b2_neg (fun q => h1 (by have := (f2.mp q).1; omega))] at hn'; simpa using hn'
    refine Ev.succ ?_
    simp only [impl_RingsOf.l2]
    refine Ev.pos (by omega) (Ev.pos (by omega) (Ev.ite (fun h0 => ?_) (fun h0 => Ev.pos (by omega) (Ev.ite (fun hw => ?_) (fun hw => Ev.pos (by omega) (Ev.ite (fun hm => ?_) (fun hm => ?_)))))))
    · exact fin (.inl (stepG_end (.inl h0)))
    · exact fin (.inl (stepG_end (.inr hw.symm)))
    · exact fin (.inr hm)
    · obtain ⟨j, hj, hf, hjl⟩ := stepG_of h hxl h0 (fun e => hw e.symm)
      obtain ⟨w1, w2, w3⟩ := want_first h hf
      have hu := unmarked_set hW.hM x hxl hm
      refine Ev.bind (slices_Index_at b _ (by omega) j w1 w2 w3) ?_
      rw [toNat_nat, w64 (x := (m : Int) + 1) (by omega) (by omega)]
      exact ih (unmarked (met.set x true) a.length) (by omega) (met.set x true) (m + 1) j rfl (by omega) (hW.step hxl hj hm)
theorem impl_RingsOf_ev (a b : List Int) (ha : a.length ≤ 1048576) (hb : b.length ≤ 1048576) : Ev (fun k => impl_RingsOf.f k a b) (ringSF a b) := by
  unfold impl_RingsOf.f ringSF
  refine Ev.bind (impl_areAlike_ev a b ha hb) (Ev.ite (fun h => ?_) (fun h => by rw [if_neg (fun q => h (decide_eq_true q))]; exact Ev.now _))
  have h := of_decide_eq_true h
  rw [if_pos h]
  obtain ⟨hl, hA⟩ := alike_of h
  have h9 := h.1.1
  refine Ev.pos (by omega) (Ev.pos (by omega) ?_)
  rw [toNat_nat]
  have rings : ∀ (d i : Nat), i + d = a.length → ∀ met, Marks met a.length (markG (stepG (gd_ a) (gd_ b) a.length) i) → Ev (fun k => impl_RingsOf.l1 k a b (awayN (gd_ a) (gd_ b) a.length : Int) (cnt (lead (stepG (gd_ a) (gd_ b) a.length)) i : Int) met (a.length : Int) (i : Int)) ((awayN (gd_ a) (gd_ b) a.length : Int), (ringN (gd_ a) (gd_ b) a.length : Int), true) := by
    intro d
    induction d with
    | zero =>
      intro i hi met hM
      obtain rfl : i = a.length := by omega
      refine Ev.succ ?_
      simp only [impl_RingsOf.l1]
      rw [ringN_G hA]
      exact Ev.neg (by omega) (Ev.now _)
    | succ d ih =>
      intro i hi met hM
      have hc := cnt_le_n (lead (stepG (gd_ a) (gd_ b) a.length)) i
      have hu : unmarked met a.length ≤ a.length := cnt_le_n _ _
      refine Ev.succ ?_
      simp only [impl_RingsOf.l1]
      refine Ev.pos (by omega) (impl_walk_ev h i (by omega) _ _ (by omega) _ (fun met' hM' => ?_) _ met 0 i rfl (by omega) (Walk.start hM))
      have := ih (i + 1) (by omega) met' hM'
      rw [cnt] at this
      exact_mod_cast this
  refine ev_up a.length (fun k i => impl_RingsOf.l0 k a b (cnt (fun k => gd_ a k ≠ 0 ∧ gd_ b k ≠ gd_ a k) i : Int) 0 (List.replicate a.length false) a (a.length : Int) (i : Int)) _ (fun _ => True) trivial ?_ ?_
  · intro _
    refine Ev.succ ?_
    simp only [impl_RingsOf.l0]
    refine Ev.neg (by omega) ?_
    exact rings a.length 0 (by omega) _ (Marks.none _ _ (fun x ⟨⟨j, hj, _⟩, _⟩ => by omega))
  · intro i hi _ hn
    have hc := cnt_le_n (fun k => gd_ a k ≠ 0 ∧ gd_ b k ≠ gd_ a k) i
    have hn := hn trivial
    rw [cnt] at hn
    refine Ev.succ ?_
    simp only [impl_RingsOf.l0]
    rw [w64 (x := (i : Int) + 1) (by omega) (by omega), w64 (x := (cnt (fun k => gd_ a k ≠ 0 ∧ gd_ b k ≠ gd_ a k) i : Int) + 1) (by omega) (by omega)]
    refine Ev.pos (by omega) (Ev.pos (by omega) (Ev.pos (by omega) (Ev.ite (fun h0 => ?_) (fun h0 => Ev.pos (by omega) (Ev.ite (fun hw => ?_) (fun hw => ?_))))))
    · rw [b2_neg (fun q => q.1 h0)] at hn; exact hn
    · rw [b2_neg (fun q => q.2 hw.symm)] at hn; exact hn
    · rw [b2_pos ⟨h0, fun q => hw q.symm⟩] at hn; exact hn
theorem impl_MovesNeeded_ev (a b : List Int) (ha : a.length ≤ 1048576) (hb : b.length ≤ 1048576) : Ev (fun k => impl_MovesNeeded.f k a b) (needSF a b) := by
  unfold impl_MovesNeeded.f
  refine Ev.bind (impl_RingsOf_ev a b ha hb) (Ev.to (Ev.now _) ?_)
  unfold ringSF needSF
  by_cases h : alikeP a b
  · rw [if_pos h, if_pos h]
    have h9 := h.1.1
    have c1 : awayN (gd_ a) (gd_ b) a.length ≤ a.length := cnt_le_n _ _
    have c2 : ringN (gd_ a) (gd_ b) a.length ≤ a.length := cnt_le_n _ _
    dsimp only
    rw [w64 (by omega) (by omega)]
    unfold needN; simp
  · rw [if_neg h, if_neg h]
    show (wrap64 (0 + 0), false) = _
    rw [w64 (by omega) (by omega)]; rfl

theorem spec_l10Spot_at (l : List Int) (a : Int) (hl : l.length ≤ 1048576) (j : Nat) (hj : j < l.length) (e : rd l (j : Int) = a) (hf : ∀ i, i < j → rd l (i : Int) ≠ a) : Ev (fun k => spec_l10Spot.f k l a) (j : Int) := by
  unfold spec_l10Spot.f
  refine ev_up j (fun k i => spec_l10Spot.l0 k a l (l.length : Int) (i : Int)) _ (fun _ => True) trivial ?_ ?_
  · intro _
    refine Ev.succ ?_
    simp only [spec_l10Spot.l0]
    exact Ev.pos (by omega) (Ev.pos (by omega) (Ev.pos (by omega) (Ev.pos e (Ev.now _))))
  · intro i hi _ hn
    refine Ev.succ ?_
    simp only [spec_l10Spot.l0]
    rw [w64 (x := (i : Int) + 1) (by omega) (by omega)]
    exact Ev.pos (by omega) (Ev.pos (by omega) (Ev.pos (by omega) (Ev.neg (hf i hi) (hn trivial))))
theorem spec_walk_ev {a b : List Int} (h : alikeP a b) (i : Nat) (hi : i < a.length) (w c : Int) (hc : 0 ≤ c ∧ c ≤ 100) (r : Int × Int)
    (hn : ∀ met, Marks met a.length (markG (stepG (gd_ a) (gd_ b) a.length) (i + 1)) → Ev (fun k => spec_l10Rings.l1 k a b w (c + (b2 (lead (stepG (gd_ a) (gd_ b) a.length) i) : Int)) met (a.length : Int) ((i + 1 : Nat) : Int)) r) :
    ∀ (d : Nat) (met : List Bool) (m x : Nat), unmarked met a.length = d → m + d ≤ 20 → Walk (stepG (gd_ a) (gd_ b) a.length) a.length i m x met → Ev (fun k => spec_l10Rings.l2 k a b w (c + (b2 (0 < m ∧ x = i) : Int)) met (i : Int) (x : Int) (a.length : Int) (i : Int)) r := by
  obtain ⟨hl, hA⟩ := alike_of h
  have h9 := h.1.1
  intro d
  induction d using Nat.strongRecOn with
  | ind d ih =>
    intro met m x hd hmd hW
    have hxl : x < a.length := it_within (stepG_within hA) hi m hW.hx
    have hml := hW.hM.1
    have fin : (stepG (gd_ a) (gd_ b) a.length x = none ∨ rdOf false met (x : Int) = true) → Ev (fun k => spec_l10Rings.j3 k a b w (c + (b2 (0 < m ∧ x = i) : Int)) met (i : Int) (x : Int) (a.length : Int) (i : Int) false) r := fun he => by
      obtain ⟨f1, f2⟩ := hW.fin (stepG_inj hA) hxl he
      have hn' := hn met f1
      refine Ev.succ ?_
      simp only [spec_l10Rings.j3, Bool.false_eq_true, if_false]
      rw [w64 (x := (i : Int) + 1) (by omega) (by omega), ← b2_congr f2]
      exact hn'
    have hnn := spots_nonneg h.1 x hxl
    have hnn' : 0 ≤ rd a (x : Int) := hnn
    refine Ev.succ ?_
    simp only [spec_l10Rings.l2]
    refine Ev.pos (by omega) (Ev.pos (by omega) (Ev.ite (fun hm => ?_) (fun hm => Ev.pos (by omega) (Ev.ite (fun h0 => Ev.pos (by omega) ?_) (fun h0 => ?_)))))
    · exact fin (.inr hm)
    · by_cases hw : rd b (x : Int) = rd a (x : Int)
      · have e : (rd b (x : Int) != rd a (x : Int)) = false := by simp [hw]
        rw [e]; exact fin (.inl (stepG_end (.inr hw)))
      · have e : (rd b (x : Int) != rd a (x : Int)) = true := by simp [hw]
        rw [e]
        obtain ⟨j, hj, hf, hjl⟩ := stepG_of h hxl (by omega) hw
        obtain ⟨w1, w2, w3⟩ := want_first h hf
        have hu := unmarked_set hW.hM x hxl hm
        have hW' := hW.step hxl hj hm
        have hih := ih (unmarked (met.set x true) a.length) (by omega) (met.set x true) (m + 1) j rfl (by omega) hW'
        have hz : b2 (0 < m ∧ x = i) = 0 := b2_neg fun q => hm ((hW.hM.2 x hxl).mpr (.inr ⟨0, q.1, by rw [q.2]; rfl⟩))
        refine Ev.succ ?_
        simp only [spec_l10Rings.j3, if_true]
        rw [toNat_nat, hz]
        refine Ev.pos (by omega) (Ev.pos (by omega) (Ev.bind0 rfl (Ev.pos (by omega) (Ev.bind (spec_l10Spot_at b _ (by omega) j w1 w2 w3) ?_))))
        rw [w64 (by omega) (by omega)]
        refine Ev.ite (fun he => ?_) (fun he => ?_)
        · rw [b2_pos ⟨by omega, by omega⟩] at hih; simpa using hih
        · rw [b2_neg (fun q => he (by have := q.2; omega))] at hih; exact hih
    · exact fin (.inl (stepG_end (.inl (by omega))))
theorem spec_l10Rings_ev {a b : List Int} (h : alikeP a b) : Ev (fun k => spec_l10Rings.f k a b) ((awayN (gd_ a) (gd_ b) a.length : Int), (ringN (gd_ a) (gd_ b) a.length : Int)) := by
  unfold spec_l10Rings.f
  obtain ⟨hl, hA⟩ := alike_of h
  have h9 := h.1.1
  refine Ev.pos (by omega) (Ev.pos (by omega) ?_)
  rw [toNat_nat]
  have rings : ∀ (d i : Nat), i + d = a.length → ∀ met, Marks met a.length (markG (stepG (gd_ a) (gd_ b) a.length) i) → Ev (fun k => spec_l10Rings.l1 k a b (awayN (gd_ a) (gd_ b) a.length : Int) (cnt (lead (stepG (gd_ a) (gd_ b) a.length)) i : Int) met (a.length : Int) (i : Int)) ((awayN (gd_ a) (gd_ b) a.length : Int), (ringN (gd_ a) (gd_ b) a.length : Int)) := by
    intro d
    induction d with
    | zero =>
      intro i hi met hM
      obtain rfl : i = a.length := by omega
      refine Ev.succ ?_
      simp only [spec_l10Rings.l1]
      rw [ringN_G hA]
      exact Ev.neg (by omega) (Ev.now _)
    | succ d ih =>
      intro i hi met hM
      have hc := cnt_le_n (lead (stepG (gd_ a) (gd_ b) a.length)) i
      have hu : unmarked met a.length ≤ a.length := cnt_le_n _ _
      have hw := spec_walk_ev h i (by omega) (awayN (gd_ a) (gd_ b) a.length : Int) (cnt (lead (stepG (gd_ a) (gd_ b) a.length)) i : Int) (by omega) _ (fun met' hM' => by
        have := ih (i + 1) (by omega) met' hM'
        rw [cnt] at this
        exact_mod_cast this) _ met 0 i rfl (by omega) (Walk.start hM)
      rw [b2_neg (fun q => by omega)] at hw
      refine Ev.succ ?_
      simp only [spec_l10Rings.l1]
      refine Ev.pos (by omega) ?_
      simpa using hw
  refine ev_up a.length (fun k i => spec_l10Rings.l0 k a b (cnt (fun k => gd_ a k ≠ 0 ∧ gd_ b k ≠ gd_ a k) i : Int) 0 (List.replicate a.length false) a (a.length : Int) (i : Int)) _ (fun _ => True) trivial ?_ ?_
  · intro _
    refine Ev.succ ?_
    simp only [spec_l10Rings.l0]
    refine Ev.neg (by omega) ?_
    exact rings a.length 0 (by omega) _ (Marks.none _ _ (fun x ⟨⟨j, hj, _⟩, _⟩ => by omega))
  · intro i hi _ hn
    have hc := cnt_le_n (fun k => gd_ a k ≠ 0 ∧ gd_ b k ≠ gd_ a k) i
    have hn := hn trivial
    have hnn : 0 ≤ rd a (i : Int) := spots_nonneg h.1 i hi
    rw [cnt] at hn
    refine Ev.succ ?_
    simp only [spec_l10Rings.l0]
    rw [w64 (x := (i : Int) + 1) (by omega) (by omega), w64 (x := (cnt (fun k => gd_ a k ≠ 0 ∧ gd_ b k ≠ gd_ a k) i : Int) + 1) (by omega) (by omega)]
    refine Ev.pos (by omega) (Ev.pos (by omega) (Ev.pos (by omega) (Ev.ite (fun h0 => Ev.pos (by omega) (Ev.ite (fun hw => ?_) (fun hw => ?_))) (fun h0 => ?_))))
    · rw [b2_neg (fun q => q.2 hw)] at hn; exact hn
    · rw [b2_pos ⟨by show rd a (i : Int) ≠ 0; omega, hw⟩] at hn; exact hn
    · rw [b2_neg (fun q => q.1 (by show rd a (i : Int) = 0; omega))] at hn; exact hn
theorem spec_RingsOf_ev (a b : List Int) (ha : a.length ≤ 1048576) (hb : b.length ≤ 1048576) : Ev (fun k => spec_RingsOf.f k a b) (ringSF a b) := by
  unfold spec_RingsOf.f ringSF
  refine Ev.bind (spec_l10Both_ev a b ha hb) (Ev.ite (fun h => ?_) (fun h => by rw [if_neg (fun q => h (decide_eq_true q))]; exact Ev.now _))
  have h := of_decide_eq_true h
  rw [if_pos h]
  exact Ev.bind (spec_l10Rings_ev h) (Ev.now _)

theorem cur_spots (l : List Int) (a s : Int) (hl : bytesOk l) (ha : 0 ≤ a ∧ a ≤ 4611686018427387000) :
    ∃ (x y : List Int) (a' s' : Int), Ev (fun k => spec_l1Cur_spots.f k l a s) (x, y, a', s') ∧ x.length ≤ 10 ∧ y.length ≤ 10 ∧ a ≤ a' ∧ a' ≤ a + 80 := by
  have l2 : ∀ (d n : Nat) (x y : List Int) (a s : Int), 1 ≤ n → x.length = n → y.length = n → 0 ≤ a ∧ a + 4 * d ≤ 4611686018427387200 → ∃ (z : List Int) (a' s' : Int), Ev (fun k => spec_l1Cur_spots.l2 k (n : Int) x y (d : Int) l a s) (x, z, a', s') ∧ z.length = n ∧ a ≤ a' ∧ a' ≤ a + 4 * d + 4 := by
    intro d
    induction d with
    | zero =>
      intro n x y a s hn hx hy ha
      obtain ⟨b, a1, s1, e1, h1⟩ := cur_one l a s 30 hl (by omega)
      cases b with
      | true =>
        obtain ⟨v, a2, s2, e2, _, h3⟩ := cur_among l a1 s1 [0, 20, 21] hl (by omega) (by simp)
        refine ⟨y.set (0 : Int).toNat v, a2, s2, Ev.succ ?_, by rw [List.length_set]; exact hy, by omega, by omega⟩
        simp only [spec_l1Cur_spots.l2]
        exact Ev.neg (by omega) (Ev.bind0 e1 (Ev.pos rfl (Ev.bind0 e2 (Ev.pos (by omega) (Ev.now _)))))
      | false =>
        refine ⟨y, a1, s1, Ev.succ ?_, hy, by omega, by omega⟩
        simp only [spec_l1Cur_spots.l2]
        exact Ev.neg (by omega) (Ev.bind0 e1 (Ev.neg (by simp) (Ev.now _)))
    | succ d ih =>
      intro n x y a s hn hx hy ha
      obtain ⟨i, a1, s1, e1, i1, i2, i3⟩ := cur_pick l a s (n : Int) hl (by omega)
      obtain ⟨j, a2, s2, e2, j1, j2, j3⟩ := cur_pick l a1 s1 (n : Int) hl (by omega)
      obtain ⟨z, a', s', e, h⟩ := ih n x ((y.set i.toNat (rd y j)).set j.toNat (rd y i)) a2 s2 hn hx (by simp [hy]) (by omega)
      refine ⟨z, a', s', Ev.succ ?_, h.1, by omega, by omega⟩
      simp only [spec_l1Cur_spots.l2]
      refine Ev.pos (by omega) (Ev.bind0 e1 (Ev.bind0 e2 (Ev.pos (by omega) (Ev.pos (by omega) (Ev.pos (by omega) (Ev.pos (by omega) ?_))))))
      rw [w64 (by omega) (by omega), show ((d + 1 : Nat) : Int) - 1 = (d : Int) by omega]
      exact e
  have l1 : ∀ (d n : Nat) (x : List Int) (a s : Int), 1 ≤ n → n ≤ 10 → x.length = n → 0 ≤ a ∧ a + 4 * d ≤ 4611686018427387100 → ∃ (x' z : List Int) (a' s' : Int), Ev (fun k => spec_l1Cur_spots.l1 k (n : Int) x (d : Int) l a s) (x', z, a', s') ∧ x'.length = n ∧ z.length = n ∧ a ≤ a' ∧ a' ≤ a + 4 * d + 40 := by
    intro d
    induction d with
    | zero =>
      intro n x a s hn hn2 hx ha
      obtain ⟨t, a1, s1, e1, t1, t2, t3⟩ := cur_pick l a s 6 hl (by omega)
      obtain ⟨z, a', s', e, h⟩ := l2 t.toNat n x ([] ++ x) a1 s1 hn hx (by simpa using hx) (by omega)
      rw [show ((t.toNat : Nat) : Int) = t by omega] at e
      refine ⟨x, z, a', s', Ev.succ ?_, hx, h.1, by omega, by omega⟩
      simp only [spec_l1Cur_spots.l1]
      exact Ev.neg (by omega) (Ev.bind0 rfl (Ev.pos (by simp; omega) (Ev.bind0 e1 e)))
    | succ d ih =>
      intro n x a s hn hn2 hx ha
      obtain ⟨i, a1, s1, e1, i1, i2, i3⟩ := cur_pick l a s (n : Int) hl (by omega)
      obtain ⟨x', z, a', s', e, h⟩ := ih n (x.set i.toNat 0) a1 s1 hn hn2 (by simp [hx]) (by omega)
      refine ⟨x', z, a', s', Ev.succ ?_, h.1, h.2.1, by omega, by omega⟩
      simp only [spec_l1Cur_spots.l1]
      refine Ev.pos (by omega) (Ev.bind0 e1 (Ev.pos (by omega) (Ev.pos (by omega) ?_)))
      rw [w64 (by omega) (by omega), show ((d + 1 : Nat) : Int) - 1 = (d : Int) by omega]
      exact e
  have j0 : ∀ (n : Nat) (a s : Int), 1 ≤ n → n ≤ 10 → 0 ≤ a ∧ a ≤ 4611686018427387040 → ∃ (x' z : List Int) (a' s' : Int), Ev (fun k => spec_l1Cur_spots.j0 k (n : Int) l a s) (x', z, a', s') ∧ x'.length = n ∧ z.length = n ∧ a ≤ a' ∧ a' ≤ a + 60 := by
    intro n a s hn hn2 ha
    obtain ⟨t, a1, s1, e1, t1, t2, t3⟩ := cur_pick l a s 2 hl (by omega)
    obtain ⟨x', z, a', s', e, h⟩ := l1 (1 + t).toNat n ((idx n).map fun v => wrap64 (v + 1)) a1 s1 hn hn2 (by simp [idx_length]) (by omega)
    rw [show (((1 + t).toNat : Nat) : Int) = 1 + t by omega] at e
    refine ⟨x', z, a', s', Ev.succ ?_, h.1, h.2.1, by omega, by omega⟩
    simp only [spec_l1Cur_spots.j0]
    refine ev_up n (fun k i => spec_l1Cur_spots.l0 k (n : Int) ((idx i).map fun v => wrap64 (v + 1)) (i : Int) l a s) _ (fun _ => True) trivial ?_ ?_
    · intro _
      refine Ev.succ ?_
      simp only [spec_l1Cur_spots.l0]
      refine Ev.neg (by omega) (Ev.bind0 e1 ?_)
      rw [w64 (by omega) (by omega)]; exact e
    · intro i hi _ hn'
      have hn' := hn' trivial
      rw [idx_succ, List.map_append, List.map_cons, List.map_nil] at hn'
      have c1 : (i : Int) < (n : Int) := by omega
      have c2 : ((idx i).map fun v => wrap64 (v + 1)).length < 17592186044416 := by rw [List.length_map, idx_length]; omega
      refine Ev.succ ?_
      simp only [spec_l1Cur_spots.l0]
      have hw : wrap64 ((i : Int) + 1) = ((i + 1 : Nat) : Int) := by rw [w64 (by omega) (by omega)]; rfl
      rw [hw] at hn' ⊢
      exact Ev.pos c1 (Ev.pos c2 hn')
  unfold spec_l1Cur_spots.f
  obtain ⟨n, a1, s1, e1, n1, n2, n3⟩ := cur_pick l a s 6 hl (by omega)
  obtain ⟨b, a2, s2, e2, h2⟩ := cur_one l a1 s1 20 hl (by omega)
  cases b with
  | true =>
    obtain ⟨v, a3, s3, e3, hv, h3⟩ := cur_among l a2 s2 [1, 9, 10] hl (by omega) (by simp)
    simp only [List.mem_cons, List.not_mem_nil, or_false] at hv
    obtain ⟨x', z, a', s', e, h⟩ := j0 v.toNat a3 s3 (by omega) (by omega) (by omega)
    rw [show ((v.toNat : Nat) : Int) = v by omega] at e
    exact ⟨x', z, a', s', Ev.bind0 e1 (Ev.bind0 e2 (Ev.pos rfl (Ev.bind0 e3 e))), by omega, by omega, by omega, by omega⟩
  | false =>
    obtain ⟨x', z, a', s', e, h⟩ := j0 (2 + n).toNat a2 s2 (by omega) (by omega) (by omega)
    rw [show (((2 + n).toNat : Nat) : Int) = 2 + n by omega] at e
    refine ⟨x', z, a', s', Ev.bind0 e1 (Ev.bind0 e2 (Ev.neg (by simp) ?_)), by omega, by omega, by omega, by omega⟩
    rw [w64 (by omega) (by omega)]; exact e

theorem spec_DrawPlanMoves_ev (l : List Int) (hl : bytesOk l) : ∃ x y : List Int, Ev (fun k => spec_DrawPlanMoves.f k l) (x, y) ∧ x.length ≤ 10 ∧ y.length ≤ 10 := by
  obtain ⟨x, y, a, s, e, h1, h2, _⟩ := cur_spots l 0 0 hl (by omega)
  exact ⟨x, y, Ev.bind e (Ev.now _), h1, h2⟩
theorem spec_DrawRingsOf_ev (l : List Int) (hl : bytesOk l) : ∃ x y : List Int, Ev (fun k => spec_DrawRingsOf.f k l) (x, y) ∧ x.length ≤ 10 ∧ y.length ≤ 10 := by
  obtain ⟨x, y, e, h⟩ := spec_DrawPlanMoves_ev l hl
  exact ⟨x, y, Ev.bind e (Ev.now _), h⟩

theorem need_le {a b : List Int} (h : alikeP a b) : needN (gd_ a) (gd_ b) a.length ≤ 18 := by
  have h9 := h.1.1
  have c1 : awayN (gd_ a) (gd_ b) a.length ≤ a.length := cnt_le_n _ _
  have c2 : ringN (gd_ a) (gd_ b) a.length ≤ a.length := cnt_le_n _ _
  unfold needN; omega
theorem needSF_pos {a b : List Int} (h : alikeP a b) : needSF a b = ((needN (gd_ a) (gd_ b) a.length : Int), true) := by unfold needSF; rw [if_pos h]
theorem spots_hole {a : List Int} (h : spotsP a) : ∃ k, k < a.length ∧ gd_ a k = 0 := by
  obtain ⟨k, hk, e⟩ := List.getElem_of_mem h.2.1
  exact ⟨k, hk, by unfold gd_; rw [rd_nat _ _ hk]; exact e⟩
theorem rings_j1 (l : List Int) (hl : bytesOk l) (hll : l.length ≤ 1048576) {a b : List Int} (h : alikeP a b) : Ev (fun k => laws_FnRings.j1 k l a b (needN (gd_ a) (gd_ b) a.length : Int) false) true := by
  have h9 := h.1.1
  obtain ⟨hlen, hA⟩ := alike_of h
  obtain ⟨n, hnum, n0, n1⟩ := laws_numberOf_ev l hl hll
  have d0 : 0 ≤ Int.tdiv n 11 ∧ Int.tdiv n 11 ≤ n := by
    rw [Int.tdiv_eq_ediv_of_nonneg n0]; omega
  obtain ⟨i, hi⟩ : ∃ i : Nat, Int.tmod n (a.length : Int) = i := ⟨(Int.tmod n (a.length : Int)).toNat, by have := Int.tmod_nonneg (a.length : Int) n0; omega⟩
  obtain ⟨k, hk⟩ : ∃ k : Nat, Int.tmod (Int.tdiv n 11) (a.length : Int) = k := ⟨(Int.tmod (Int.tdiv n 11) (a.length : Int)).toNat, by have := Int.tmod_nonneg (a.length : Int) d0.1; omega⟩
  have il : i < a.length := by have := Int.tmod_lt_of_pos n (show (0 : Int) < a.length by omega); omega
  have kl : k < a.length := by have := Int.tmod_lt_of_pos (Int.tdiv n 11) (show (0 : Int) < a.length by omega); omega
  refine Ev.succ ?_
  simp only [laws_FnRings.j1, Bool.false_eq_true, if_false]
  refine Ev.bind0 rfl (Ev.pos (by simp; omega) (Ev.bind0 rfl (Ev.bind hnum (Ev.neg (by rw [List.nil_append]; omega) (Ev.bind hnum ?_)))))
  simp only [List.nil_append]
  rw [w64 (x := Int.tdiv n 11) (by omega) (by omega), hi, hk, toNat_nat, toNat_nat, rd_nat a i il, rd_nat a k kl]
  have hp := set_swap_perm a i k il kl
  have hc : alikeP a ((a.set i a[k]).set k a[i]) := ⟨h.1, spotsP_perm hp.symm h.1, hp.symm⟩
  have hd : alikeP ((a.set i a[k]).set k a[i]) b := ⟨hc.2.1, h.2.1, hp.trans h.2.2⟩
  have hl2 : ((a.set i a[k]).set k a[i]).length = a.length := by simp
  obtain ⟨_, hA1⟩ := alike_of hc
  obtain ⟨_, hA2⟩ := alike_of hd
  rw [hl2] at hA2
  have e1 := impl_MovesNeeded_ev a ((a.set i a[k]).set k a[i]) (by omega) (by omega)
  have e2 := impl_MovesNeeded_ev ((a.set i a[k]).set k a[i]) b (by omega) (by omega)
  rw [needSF_pos hc] at e1
  rw [needSF_pos hd, hl2] at e2
  have b1 := need_le hc
  have b2 := need_le hd
  rw [hl2] at b2
  have ht := need_tri hA2 _ (gd_ a) hA1 (spots_hole h.1) rfl
  refine Ev.pos (by omega) (Ev.pos (by omega) (Ev.pos (by omega) (Ev.pos (by omega) (Ev.bind0 rfl (Ev.bind e1 (Ev.bind e2 (Ev.pos rfl (Ev.pos rfl ?_))))))))
  dsimp only
  rw [w64 (by omega) (by omega)]
  exact Ev.neg (by omega) (Ev.now _)
theorem FnRings : laws_FnRings.Pure := by
  intro l0 l1 _ hl0 hw0 _ hl1 hw1
  have b0 := bytesOk_of l0 hw0
  have b1 := bytesOk_of l1 hw1
  refine Ev.rounds (g := fun k => laws_FnRings.f k l0 l1) ?_
  unfold laws_FnRings.f
  refine Ev.ite (fun _ => Ev.now _) fun hg => ?_
  rw [w64 (by omega) (by omega)] at hg
  obtain ⟨a, b, e, h1, h2⟩ := spec_DrawRingsOf_ev l0 b0
  refine Ev.bind e (Ev.bind (impl_RingsOf_ev a b (by omega) (by omega)) (Ev.bind (spec_RingsOf_ev a b (by omega) (by omega)) ?_))
  simp only [bne_self_eq_false, Bool.false_eq_true, if_false, if_true]
  refine Ev.succ ?_
  simp only [laws_FnRings.j0, Bool.false_eq_true, if_false]
  by_cases h : alikeP a b
  · obtain ⟨hlen, hA⟩ := alike_of h
    have er : ringSF a b = ((awayN (gd_ a) (gd_ b) a.length : Int), (ringN (gd_ a) (gd_ b) a.length : Int), true) := by unfold ringSF; rw [if_pos h]
    rw [er]
    have e1 := impl_MovesNeeded_ev a b (by omega) (by omega)
    have e2 := impl_MovesNeeded_ev b a (by omega) (by omega)
    rw [needSF_pos h] at e1
    rw [needSF_pos (alikeP_symm h), hlen, ← need_symm hA] at e2
    have bn := need_le h
    have bh := ring_half hA
    have c1 : awayN (gd_ a) (gd_ b) a.length ≤ a.length := cnt_le_n _ _
    have hz := need_zero hA
    have hj := rings_j1 l1 b1 (by omega) h
    refine Ev.pos rfl (Ev.bind e1 (Ev.bind e2 (Ev.pos rfl (Ev.pos ?_ (Ev.pos rfl (Ev.pos rfl (Ev.bind (laws_sameInts_ev a b (by omega)) (Ev.neg ?_ ?_))))))))
    · dsimp only
      rw [w64 (by omega) (by omega)]; unfold needN; simp
    · dsimp only
      have : (((needN (gd_ a) (gd_ b) a.length : Nat) : Int) == 0) = decide (a = b) := by
        rw [Bool.eq_iff_iff, beq_iff_eq, decide_eq_true_eq]
        constructor
        · intro e
          have h0 := hz.mp (by omega)
          apply List.ext_getElem (by omega)
          intro i p1 p2
          have := h0 i p1
          unfold gd_ at this
          rwa [rd_nat _ _ p1, rd_nat _ _ p2] at this
        · intro e
          have := hz.mpr (fun k _ => by rw [e])
          omega
      rw [this]; simp
    · dsimp only
      rw [w64 (by omega) (by omega)]
      have : decide ((2 * (ringN (gd_ a) (gd_ b) a.length : Int)) > (awayN (gd_ a) (gd_ b) a.length : Int)) = false := decide_eq_false (by omega)
      rw [this]; exact hj
  · have er : ringSF a b = (0, 0, false) := by unfold ringSF; rw [if_neg h]
    rw [er]
    exact Ev.neg (by simp) (Ev.now _)
end Go.Proofs.Ytneojimdhnhkeaa.Pure
