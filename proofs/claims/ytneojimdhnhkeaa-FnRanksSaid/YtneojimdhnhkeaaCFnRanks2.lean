/- No order of goods costs less than that with the most used at the nearest. -/
import Derived.Test.YtneojimdhnhkeaaCFnRanks0
import Derived.Test.YtneojimdhnhkeaaCFnRanks1
set_option linter.unusedVariables false
set_option linter.unusedSimpArgs false
namespace Go.Proofs.Ytneojimdhnhkeaa.Print
open Go.RowKit Go.Proofs.YtneojimdhnhkeaaW.PrintWords Go.Proofs.YtneojimdhnhkeaaW.PrintLast Go.Proofs.YtneojimdhnhkeaaW.PrintMore
attribute [local go_sem] max2_int min2_int max_two min_two max_three min_three max_four min_four

def impl_SwapGain.j0:Nat→List Int→List Int→List Int→Int→Int→Bool→Option (Int×Bool)
  |0,_,_,_,_,_,_=>none
  |k+1,x0,x1,x2,x3,x4,x27=>if x27=true then (some (0,false)) else ((slices_Clone_int_int.f x2).bind fun t106=>(if 0≤x4 then (if x4<(t106.length:Int) then (if 0≤x3 then (if x3<(t106.length:Int) then ((impl_orderCost.f k x0 x1 x2).bind fun t113=>((impl_orderCost.f k x0 x1 ((t106.set (x3:Int).toNat (rd t106 x4)).set (x4:Int).toNat (rd t106 x3))).bind fun t114=>(some (wrap64 (t113 - t114),true)))) else (none)) else (none)) else (none)) else (none)))
def impl_SwapGain.f (k:Nat) (l0:List Int) (l1:List Int) (l2:List Int) (a3:Int) (a4:Int):Option (Int×Bool):=(impl_isOrdered.f k l0 l1 l2).bind fun t101=>(if t101=true then ((impl_allWithin.f k (([a3,a4]:List Int)) 0 (wrap64 ((l2.length:Int) - 1))).bind fun t105=>(impl_SwapGain.j0 k l0 l1 l2 a3 a4 (!t105))) else (impl_SwapGain.j0 k l0 l1 l2 a3 a4 true))
def impl_SwapGain.T4:Bool×List (List Nat×List Nat):=(true,[([],[]),([],[]),([],[]),([],[]),([],[]),([],[]),([4,5],[4,5]),([6],[6]),([],[]),([],[]),([8,9],[8,9]),([10],[10]),([0,1,0,1,4,5,6,7,11],[0,1]),([12,7,0,1,4,5,6,7,11],[7,12]),([2,3,0,1,2,3,4,5,6,7,8,9,10,11,12,13],[2,3]),([14,11,13,0,1,2,3,4,5,6,7,8,9,10,11,12,13],[11,14])])
def impl_SwapGain.B4:List Nat:=[0,0,0,0,0,0,48,112,0,0,768,1792,4083,8179,16383,32767]
theorem impl_SwapGain.tab4:rtab .any (opsOf Try.f70 4)=impl_SwapGain.T4:=by kernel_rfl
theorem impl_SwapGain.bits4:waitsOk impl_SwapGain.T4.2 impl_SwapGain.B4=true:=by kernel_rfl
set_option maxHeartbeats 8000000 in
set_option maxRecDepth 100000 in
theorem impl_SwapGain.calls (k:Nat) (A0:Option Addr) (c0:Nat) (l0:List Int) (A1:Option Addr) (c1:Nat) (l1:List Int) (A2:Option Addr) (c2:Nat) (l2:List Int) (a3:Int) (a4:Int) (r1:Int) (r2:Bool) (w:World) (hr0:Kd.C (Kd.int .i64) w A0 l0.length l0) (hc0:l0.length≤c0) (hr1:Kd.C (Kd.int .i64) w A1 l1.length l1) (hc1:l1.length≤c1) (hr2:Kd.C (Kd.int .i64) w A2 l2.length l2) (hc2:l2.length≤c2) (h:impl_SwapGain.f k l0 l1 l2 a3 a4=some (r1,r2)) :
    Calls Try.prog 70 #[.slice A0 l0.length c0,.slice A1 l1.length c1,.slice A2 l2.length c2,.int .i64 a3,.int .i64 a4] w fun e w'=>e= .returned (.tuple #[.int .i64 r1,.bool r2])∧Below w.heap.size w w':=by
  have HR0:=aM hr0;have HC0:=aM hc0;clear hr0 hc0;have HR1:=aM hr1;have HC1:=aM hc1;clear hr1 hc1;have HR2:=aM hr2;have HC2:=aM hc2;clear hr2 hc2;have HB:=aM (Below.refl w.heap.size w);have H:((impl_isOrdered.f k l0 l1 l2).bind fun t101=>(if t101=true then ((impl_allWithin.f k (([a3,a4]:List Int)) 0 (wrap64 ((l2.length:Int) - 1))).bind fun t105=>(impl_SwapGain.j0 k l0 l1 l2 a3 a4 (!t105))) else (impl_SwapGain.j0 k l0 l1 l2 a3 a4 true)))=some (r1,r2):=h;clear h;have HC6:=aM H;clear H;go_enter Try.func70,Try.ntmps70
  go_upto_region 1 with (fail)
  go_cut [27] (fun v27 wc=>∃ (kq:Nat) (x27_5:Bool),v27= .bool x27_5∧Aside0 (impl_SwapGain.j0 kq l0 l1 l2 a3 a4 x27_5=some (r1,r2))∧Aside0 (kq≤k)∧Aside0 (Below w.heap.size w wc))
  case first=>
   have H:=HC6.out;clear HC6;replace H:=Option.bind_eq_some_iff.mp H;obtain ⟨t101,A70,H⟩:=H;replace H:(if t101=true then ((impl_allWithin.f k (([a3,a4]:List Int)) 0 (wrap64 ((l2.length:Int) - 1))).bind fun t105=>(impl_SwapGain.j0 k l0 l1 l2 a3 a4 (!t105))) else (impl_SwapGain.j0 k l0 l1 l2 a3 a4 true))=some (r1,r2):=H;have A7:=aM A70;clear A70;by_cases c8:t101=true
   ·subst c8;have H1:((impl_allWithin.f k (([a3,a4]:List Int)) 0 (wrap64 ((l2.length:Int) - 1))).bind fun t105=>(impl_SwapGain.j0 k l0 l1 l2 a3 a4 (!t105)))=some (r1,r2):=by rw [if_pos rfl] at H;exact H
    clear H;have H:=H1;clear H1;obtain ⟨y102,hy102⟩:∃ y_:List Int,y_=(([a3,a4]:List Int)):=⟨_,rfl⟩;replace H:((impl_allWithin.f k y102 0 (wrap64 ((l2.length:Int) - 1))).bind fun t105=>(impl_SwapGain.j0 k l0 l1 l2 a3 a4 (!t105)))=some (r1,r2):=by first|(rw [hy102];with_reducible exact H)|(have H2_:=(Option.bind_some _ _).symm.trans H;rw [hy102];with_reducible exact H2_)|(have H2_:=(Option.bind_some _ _).symm.trans H;with_reducible exact H2_)|with_reducible exact H|(rw [hy102];exact H)|exact H
    have Ny102:=aM hy102;clear hy102;replace H:=Option.bind_eq_some_iff.mp H;obtain ⟨t105,A90,H⟩:=H;replace H:(impl_SwapGain.j0 k l0 l1 l2 a3 a4 (!t105))=some (r1,r2):=H;have A9:=aM A90;clear A90;have H':=aM H;clear H;go_wp2_with (first|((with_reducible refine Qj (f:=201) rfl ?_);refine goesL_ (some 16) rfl rfl Try.func201 (by kernel_rfl) rfl #[.slice A0 l0.length c0,.slice A1 l1.length c1,.slice A2 l2.length c2] rfl (by (try simp only [aD,aE,aF]);first|done|rfl|(simp only [aG,aH];rfl)) ?_;(with_reducible refine (impl_isOrdered.calls k _ _ l0 _ _ l1 _ _ l2 true _ ?side1 ?side2 ?side3 ?side4 ?side5 ?side6 A7.out).mono ?_);(case side1=>repeat first|exact (Kd.C_below HR0.out HB.out)|(with_reducible first|refine Kd.Qh ?_ _|refine Kd.Qi ?_ _|refine Kd.C_drew ?_));(case side2=>exact HC0.out);(case side3=>repeat first|exact (Kd.C_below HR1.out HB.out)|(with_reducible first|refine Kd.Qh ?_ _|refine Kd.Qi ?_ _|refine Kd.C_drew ?_));(case side4=>exact HC1.out);(case side5=>repeat first|exact (Kd.C_below HR2.out HB.out)|(with_reducible first|refine Kd.Qh ?_ _|refine Kd.Qi ?_ _|refine Kd.C_drew ?_));(case side6=>exact HC2.out);rintro e w10 ⟨rfl,hb⟩;refine ⟨_,rfl,?_⟩;have n0_:=aM (Qo (by repeat (with_reducible first|exact HB.out|apply Qc|apply Qa|apply Qb)) hb);clear HB;have HB:=n0_;clear n0_ hb)|((with_reducible refine gate_dst (N:=21) rfl ?_);(try (refine gate_guard (by rfl) ?_;dsimp only));refine Kd.R_lit (Kd.int .i64) _ 3 ?hg (N:=21) ?hd (xs:=([a3,a4]:List Int)) (inner:=[.int .i64 a3,.int .i64 a4]) (ok:=fun _=>True) (okp:=fun _=>True) ?hr ?hp (fun _ hk=>hk) trivial (Below.refl _ _) (Nat.le_refl _) (by simp) ?_;(case hd=>rfl);(case hg=>rfl);(case hr=>first|(go_simp;done)|(go_simp;rfl));(case hp=>exact (Reps.one (show Kd.M (Kd.int .i64) _ _ _ a3 [.int .i64 a3] from rfl) (Reps.one (show Kd.M (Kd.int .i64) _ _ _ a4 [.int .i64 a4] from rfl) (Reps.none _ _))));intro v103 w11 ho12 hb hg_ hnew_;clear hg_ hnew_;(first|rw [←Ny102.out] at ho12|(simp only [Int.reduceToNat] at ho12;rw [←Ny102.out] at ho12));have n0_:=aM (Kd.R_lower ho12 (Qn (by repeat (with_reducible first|exact HB.out|apply Qc|apply Qa|apply Qb))));have n1_:=aM (Qo (by repeat (with_reducible first|exact HB.out|apply Qc|apply Qa|apply Qb)) hb);clear HB;have HO104:=n0_;have HB:=n1_;clear n0_ n1_ hb ho12;obtain ⟨Ao13,co13,eo13⟩:=Kd.R_slice HO104.out;subst eo13)|(go_at_call 149;(with_reducible refine (impl_allWithin.calls k _ _ y102 0 (wrap64 ((l2.length:Int) - 1)) t105 _ ?side1 ?side2 A9.out).mono ?_);(case side1=>repeat first|exact (Kd.Qg HO104.out).2.2|(with_reducible first|refine Kd.Qh ?_ _|refine Kd.Qi ?_ _|refine Kd.C_drew ?_));(case side2=>exact (Kd.Qg HO104.out).2.1);rintro e w14 ⟨rfl,hb⟩;have n0_:=aM (Kd.R_below (by (with_reducible repeat first|apply Kd.Qd|apply Kd.Qe|apply Kd.R_drew);exact HO104.out) hb);have n1_:=aM (Qo (by repeat (with_reducible first|exact HB.out|apply Qc|apply Qa|apply Qb)) hb);clear HO104 HB;have HO104:=n0_;have HB:=n1_;clear n0_ n1_ hb))
    go_meet
    case rel=>exact ⟨_,(!t105),(by first|rfl|(simp;done)|(simp [*];done)),H',⟨by first|omega|exact Nat.le_refl _⟩,⟨by repeat (with_reducible first|exact HB.out|apply Qc|apply Qa|apply Qb)⟩⟩
   ·replace c8:=Bool.eq_false_iff.mpr c8;subst c8;have H1:(impl_SwapGain.j0 k l0 l1 l2 a3 a4 true)=some (r1,r2):=by rw [if_neg (show ¬ (false=true) by decide)] at H;exact H
    clear H;have H:=H1;clear H1;have H':=aM H;clear H;go_wp2_with (first|((with_reducible refine Qj (f:=201) rfl ?_);refine goesL_ (some 16) rfl rfl Try.func201 (by kernel_rfl) rfl #[.slice A0 l0.length c0,.slice A1 l1.length c1,.slice A2 l2.length c2] rfl (by (try simp only [aD,aE,aF]);first|done|rfl|(simp only [aG,aH];rfl)) ?_;(with_reducible refine (impl_isOrdered.calls k _ _ l0 _ _ l1 _ _ l2 false _ ?side1 ?side2 ?side3 ?side4 ?side5 ?side6 A7.out).mono ?_);(case side1=>repeat first|exact (Kd.C_below HR0.out HB.out)|(with_reducible first|refine Kd.Qh ?_ _|refine Kd.Qi ?_ _|refine Kd.C_drew ?_));(case side2=>exact HC0.out);(case side3=>repeat first|exact (Kd.C_below HR1.out HB.out)|(with_reducible first|refine Kd.Qh ?_ _|refine Kd.Qi ?_ _|refine Kd.C_drew ?_));(case side4=>exact HC1.out);(case side5=>repeat first|exact (Kd.C_below HR2.out HB.out)|(with_reducible first|refine Kd.Qh ?_ _|refine Kd.Qi ?_ _|refine Kd.C_drew ?_));(case side6=>exact HC2.out);rintro e w15 ⟨rfl,hb⟩;refine ⟨_,rfl,?_⟩;have n0_:=aM (Qo (by repeat (with_reducible first|exact HB.out|apply Qc|apply Qa|apply Qb)) hb);clear HB;have HB:=n0_;clear n0_ hb))
    go_meet
    case rel=>exact ⟨_,(true),(by first|rfl|(simp;done)|(simp [*];done)),H',⟨by first|omega|exact Nat.le_refl _⟩,⟨by repeat (with_reducible first|exact HB.out|apply Qc|apply Qa|apply Qb)⟩⟩
  case rest=>
   clear HC6;(try clear c1);(try clear c2);(try clear p2);(try clear p6);(try clear c7);(try clear c8);obtain ⟨kq,x27_5,rfl,HA,HJ5,HB⟩:=hcut
   cases kq with
   |zero=>exact absurd HA.out (by simp [impl_SwapGain.j0])
   |succ kj5=>
    have H:=HA.out;clear HA;simp only [impl_SwapGain.j0] at H;by_cases c16:x27_5=true
    ·subst c16;have H1:(some (0,false))=some (r1,r2):=by rw [if_pos rfl] at H;exact H
     clear H;have H:=H1;clear H1;simp only [Option.some.injEq,Prod.mk.injEq] at H;obtain ⟨rfl,rfl⟩:=H;go_wp2
     go_ret2
     exact ⟨by first|rfl|(simp [errW_none,errW_some] <;> rfl)|(simp [*,errW_none,errW_some] <;> rfl),by repeat (with_reducible first|exact HB.out|apply Qc|apply Qa|apply Qb)⟩
    ·replace c16:=Bool.eq_false_iff.mpr c16;subst c16;have H1:((slices_Clone_int_int.f l2).bind fun t106=>(if 0≤a4 then (if a4<(t106.length:Int) then (if 0≤a3 then (if a3<(t106.length:Int) then ((impl_orderCost.f kj5 l0 l1 l2).bind fun t113=>((impl_orderCost.f kj5 l0 l1 ((t106.set (a3:Int).toNat (rd t106 a4)).set (a4:Int).toNat (rd t106 a3))).bind fun t114=>(some (wrap64 (t113 - t114),true)))) else (none)) else (none)) else (none)) else (none)))=some (r1,r2):=by rw [if_neg (show ¬ (false=true) by decide)] at H;exact H
     clear H;have H:=H1;clear H1;replace H:=Option.bind_eq_some_iff.mp H;obtain ⟨t106,A170,H⟩:=H;replace H:(if 0≤a4 then (if a4<(t106.length:Int) then (if 0≤a3 then (if a3<(t106.length:Int) then ((impl_orderCost.f kj5 l0 l1 l2).bind fun t113=>((impl_orderCost.f kj5 l0 l1 ((t106.set (a3:Int).toNat (rd t106 a4)).set (a4:Int).toNat (rd t106 a3))).bind fun t114=>(some (wrap64 (t113 - t114),true)))) else (none)) else (none)) else (none)) else (none))=some (r1,r2):=H;have A17:=aM A170;clear A170;by_cases c18:0≤a4
     ·rw [if_pos c18] at H;have c18b0:decide (0≤a4)=true:=aL c18;clear c18;by_cases c19:a4<(t106.length:Int)
      ·rw [if_pos c19] at H;have c19b0:decide (a4<(t106.length:Int))=true:=aL c19;clear c19;by_cases c20:0≤a3
       ·rw [if_pos c20] at H;have c20b0:decide (0≤a3)=true:=aL c20;clear c20;by_cases c21:a3<(t106.length:Int)
        ·rw [if_pos c21] at H;have c21b0:decide (a3<(t106.length:Int))=true:=aL c21;clear c21;obtain ⟨y111,hy111⟩:∃ y_:List Int,y_=(t106.set (a3:Int).toNat (rd t106 a4)):=⟨_,rfl⟩;replace H:((impl_orderCost.f kj5 l0 l1 l2).bind fun t113=>((impl_orderCost.f kj5 l0 l1 (y111.set (a4:Int).toNat (rd t106 a3))).bind fun t114=>(some (wrap64 (t113 - t114),true))))=some (r1,r2):=by first|(rw [hy111];with_reducible exact H)|(have H2_:=(Option.bind_some _ _).symm.trans H;rw [hy111];with_reducible exact H2_)|(have H2_:=(Option.bind_some _ _).symm.trans H;with_reducible exact H2_)|with_reducible exact H|(rw [hy111];exact H)|exact H
         have Ny111:=aM hy111;clear hy111;obtain ⟨y112,hy112⟩:∃ y_:List Int,y_=(y111.set (a4:Int).toNat (rd t106 a3)):=⟨_,rfl⟩;replace H:((impl_orderCost.f kj5 l0 l1 l2).bind fun t113=>((impl_orderCost.f kj5 l0 l1 y112).bind fun t114=>(some (wrap64 (t113 - t114),true))))=some (r1,r2):=by first|(rw [hy112];with_reducible exact H)|(have H2_:=(Option.bind_some _ _).symm.trans H;rw [hy112];with_reducible exact H2_)|(have H2_:=(Option.bind_some _ _).symm.trans H;with_reducible exact H2_)|with_reducible exact H|(rw [hy112];exact H)|exact H
         have Ny112:=aM hy112;clear hy112;replace H:=Option.bind_eq_some_iff.mp H;obtain ⟨t113,A240,H⟩:=H;replace H:((impl_orderCost.f kj5 l0 l1 y112).bind fun t114=>(some (wrap64 (t113 - t114),true)))=some (r1,r2):=H;have A24:=aM A240;clear A240;replace H:=Option.bind_eq_some_iff.mp H;obtain ⟨t114,A250,H⟩:=H;replace H:(some (wrap64 (t113 - t114),true))=some (r1,r2):=H;have A25:=aM A250;clear A250;simp only [Option.some.injEq,Prod.mk.injEq] at H;obtain ⟨rfl,rfl⟩:=H
         try go_wp2_with (first|((with_reducible refine Qj (f:=206) rfl ?_);refine goesL_ (some 29) rfl rfl Try.func206 (by kernel_rfl) rfl #[.slice A2 l2.length c2] rfl (by (try simp only [aD,aE,aF]);first|done|rfl|(simp only [aG,aH];rfl)) ?_;(with_reducible refine (slices_Clone_int_int.calls _ _ l2 t106 _ ?side1 ?side2 A17.out).mono ?_);(case side1=>repeat first|exact (Kd.C_below HR2.out HB.out)|(with_reducible first|refine Kd.Qh ?_ _|refine Kd.Qi ?_ _|refine Kd.C_drew ?_));(case side2=>exact HC2.out);rintro e w26 ⟨v107,rfl,ho0,hb⟩;refine ⟨_,rfl,?_⟩;have n0_:=aM (Kd.R_lower ho0 (Qn (by repeat (with_reducible first|exact HB.out|apply Qc|apply Qa|apply Qb))));have n1_:=aM (Qo (by repeat (with_reducible first|exact HB.out|apply Qc|apply Qa|apply Qb)) hb);clear HB;have HO108:=n0_;have HB:=n1_;clear n0_ n1_ hb ho0))
         have n0_:=aM (Kd.R_drew HO108.out);have n1_:=aM (Qb HB.out);clear HO108 HB;have HO108:=n0_;have HB:=n1_;clear n0_ n1_;obtain ⟨Ao28,co28,eo28⟩:=Kd.R_slice HO108.out
         (first|subst eo28|(injection eo28 with f1_ f2_ f3_;have f4_:=f1_.symm;have f5_:=f3_.symm;clear f1_ f2_ f3_;subst f4_;subst f5_))
         have p109:0≤(a4:Int):=aK (by first|(with_reducible assumption)|assumption);have q109:a4<(t106.length:Int):=aK (by first|(with_reducible assumption)|assumption);obtain ⟨ad109,e109,hx109_0⟩:=Kd.at_int (Kd.Qg HO108.out).2.2 a4 p109 q109
         cases e109
         replace p109:=eq_true p109;replace q109:=eq_true q109;have p110:0≤(a3:Int):=aK (by first|(with_reducible assumption)|assumption);have q110:a3<(t106.length:Int):=aK (by first|(with_reducible assumption)|assumption);obtain ⟨ad110,e110,hx110_0⟩:=Kd.at_int (Kd.Qg HO108.out).2.2 a3 p110 q110;obtain rfl:ad109=ad110:=(by injection e110);replace p110:=eq_true p110;replace q110:=eq_true q110;have p22:0≤(a3:Int):=aK (by first|(with_reducible assumption)|assumption);have q22:(a3:Int)<((t106.length:Int):Int):=aK (by first|(with_reducible assumption)|assumption);obtain ⟨go22,co22,eo22,gb22,gl22,cl22,HG22⟩:=Kd.R_form HO108.out (by omega)
         (first|cases eo22|(injection eo22 with ea_ en_ ec_;(first|subst ea_|(injection ea_ with ea_;subst ea_));subst ec_;clear en_))
         have GB22:=aM gb22;have GG22:=aM HG22;clear gb22 gl22 HG22
         (first|simp only [add_plain] at hx109_0|skip)
         (first|simp only [add_plain] at hx110_0|skip)
         obtain ⟨hx22_0,hf22_0⟩:=Kd.R_celln 0 HO108.out (a3:Int) p22 q22;replace p22:=eq_true p22;replace q22:=eq_true q22;have HP29:=Kd.R_putn HO108.out (a3:Int) (rd t106 a4);rw [←Ny111.out] at HP29;have HQ29:=aM HP29;clear HP29;have p23:0≤(a4:Int):=aK (by first|(with_reducible assumption)|assumption);have q23:(a4:Int)<((t106.length:Int):Int):=aK (by first|(with_reducible assumption)|assumption);obtain ⟨hx23_0,hf23_0⟩:=Kd.R_celln 0 HQ29.out (a4:Int) p23 q23;replace p23:=eq_true p23;replace q23:=eq_true q23;have HP30:=Kd.R_putn HQ29.out (a4:Int) (rd t106 a3);rw [←Ny112.out] at HP30;have HQ30:=aM HP30;clear HP30;refine start_ (n:=16) (S:=fun w'=>w'.cell? ⟨go22,(a4).toNat,none⟩=some (.int .i64 (rd t106 a4))∧w'.cell? ⟨go22,(a3).toNat,none⟩=some (.int .i64 (rd t106 a3))) (ds:=[13,15]) (bz 16 0) (by kernel_rfl) rfl rfl ⟨hx109_0,hx110_0⟩ (fun hHeld=>?_);refine with_tabW impl_SwapGain.tab4 impl_SwapGain.bits4 (fun HT_ HW_=>?_)
         generalize w26.drew=w27 at HO108 HB GG22 HQ29 HQ30 hf22_0 hf23_0 hx109_0 hx110_0 hx22_0 hx23_0 hHeld ⊢
         refine pure_ (i:=0) (N:=some 30) (v:=?_) (a':=?_) (bz 16 1) rfl rfl (any_of HT_.out (by kernel_rfl)) (fun _ _ _ h=>h) (Or.inl ⟨by rfl,?_⟩) ?_ ?_;rotate_left;(intro w';go_simp;with_reducible rfl);rotate_left;(simp only [Act.put,aA,aB,aC,i64_w,i32_w];rfl);refine pure_ (i:=1) (N:=some 31) (v:=?_) (a':=?_) (bz 16 3) rfl rfl (any_of HT_.out (by kernel_rfl)) (fun _ _ _ h=>h) (Or.inl ⟨by rfl,?_⟩) ?_ ?_;rotate_left;(intro w';go_simp;with_reducible rfl);rotate_left;(simp only [Act.put,aA,aB,aC,i64_w,i32_w];rfl);refine pure_ (i:=2) (N:=some 32) (v:=?_) (a':=?_) (bz 16 7) rfl rfl (any_of HT_.out (by kernel_rfl)) (fun _ _ _ h=>h) (Or.inl ⟨by rfl,?_⟩) ?_ ?_;rotate_left;(intro w';go_simp;with_reducible rfl);rotate_left;(simp only [Act.put,aA,aB,aC,i64_w,i32_w];rfl);refine pure_ (i:=3) (N:=some 33) (v:=?_) (a':=?_) (bz 16 15) rfl rfl (any_of HT_.out (by kernel_rfl)) (fun _ _ _ h=>h) (Or.inl ⟨by rfl,?_⟩) ?_ ?_;rotate_left;(intro w';go_simp;with_reducible rfl);rotate_left;(simp only [Act.put,aA,aB,aC,i64_w,i32_w];rfl);refine pure_ (i:=4) (N:=some 34) (v:=?_) (a':=?_) (bz 16 31) rfl rfl (any_of HT_.out (by kernel_rfl)) (fun _ _ _ h=>h) (Or.inl ⟨by rfl,?_⟩) ?_ ?_;rotate_left;(intro w';go_simp;with_reducible rfl);rotate_left;(simp only [Act.put,aA,aB,aC,i64_w,i32_w];rfl);refine pure_ (i:=5) (N:=some 35) (v:=?_) (a':=?_) (bz 16 63) rfl rfl (any_of HT_.out (by kernel_rfl)) (fun _ _ _ h=>h) (Or.inl ⟨by rfl,?_⟩) ?_ ?_;rotate_left;(intro w';go_simp;with_reducible rfl);rotate_left;(simp only [Act.put,aA,aB,aC,i64_w,i32_w];rfl);refine pure_ (i:=6) (N:=some 36) (v:=?_) (a':=?_) (bz 16 127) rfl rfl (any_of HT_.out (by kernel_rfl)) (fun _ _ _ h=>h) (Or.inl ⟨by rfl,?_⟩) ?_ ?_;rotate_left;(intro w';go_simp;with_reducible rfl);rotate_left;(simp only [Act.put,aA,aB,aC,i64_w,i32_w];rfl);refine pure_ (i:=8) (N:=some 38) (v:=?_) (a':=?_) (bz 16 383) rfl rfl (any_of HT_.out (by kernel_rfl)) (fun _ _ _ h=>h) (Or.inl ⟨by rfl,?_⟩) ?_ ?_;rotate_left;(intro w';go_simp;with_reducible rfl);rotate_left;(simp only [Act.put,aA,aB,aC,i64_w,i32_w];rfl);refine pure_ (i:=9) (N:=some 39) (v:=?_) (a':=?_) (bz 16 895) rfl rfl (any_of HT_.out (by kernel_rfl)) (fun _ _ _ h=>h) (Or.inl ⟨by rfl,?_⟩) ?_ ?_;rotate_left;(intro w';go_simp;with_reducible rfl);rotate_left;(simp only [Act.put,aA,aB,aC,i64_w,i32_w];rfl);refine pure_ (i:=10) (N:=some 40) (v:=?_) (a':=?_) (bz 16 1919) rfl rfl (any_of HT_.out (by kernel_rfl)) (fun _ _ _ h=>h) (Or.inl ⟨by rfl,?_⟩) ?_ ?_;rotate_left;(intro w';go_simp;with_reducible rfl);rotate_left;(simp only [Act.put,aA,aB,aC,i64_w,i32_w];rfl);refine take_ (i:=7) (N:=some 37) (v:=?_) (a':=?_) (bz 16 2047) rfl rfl (take_ofW HT_.out HW_.out (by kernel_rfl)) (fun _ _ _ h=>h) (Or.inl ⟨by rfl,?_⟩) hHeld ?_ ?_;rotate_left;(rintro w' ⟨s0,s1⟩;go_simp;with_reducible rfl);rotate_left;(simp only [Act.put,aA,aB,aC,i64_w,i32_w];rfl);refine take_ (i:=11) (N:=some 41) (v:=?_) (a':=?_) (bz 16 4095) rfl rfl (take_ofW HT_.out HW_.out (by kernel_rfl)) (fun _ _ _ h=>h) (Or.inl ⟨by rfl,?_⟩) hHeld ?_ ?_;rotate_left;(rintro w' ⟨s0,s1⟩;go_simp;with_reducible rfl);rotate_left;(simp only [Act.put,aA,aB,aC,i64_w,i32_w];rfl);refine pure_ (i:=12) (N:=some 42) (v:=?_) (a':=?_) (bz 16 8191) rfl rfl (any_of HT_.out (by kernel_rfl)) (fun _ _ _ h=>h) (Or.inl ⟨by rfl,?_⟩) ?_ ?_;rotate_left;(intro w';go_simp;with_reducible rfl);rotate_left;(simp only [Act.put,aA,aB,aC,i64_w,i32_w];rfl);refine last_ (i:=13) (N:=none) (bz 16 16383) rfl rfl (one_of HT_.out (by kernel_rfl)) (by decide) (fun K hK=>?_);refine skip_ (w1:=?_) (by rfl) rfl ?_ ?_
         rotate_left
         ·go_simp
          rfl
         refine hK.out _ _ ?_;clear hK K;refine pure_ (i:=14) (N:=some 43) (v:=?_) (a':=?_) (bz 16 32767) rfl rfl (any_of HT_.out (by kernel_rfl)) (fun _ _ _ h=>h) (Or.inl ⟨by rfl,?_⟩) ?_ ?_;rotate_left;(intro w';go_simp;with_reducible rfl);rotate_left;(simp only [Act.put,aA,aB,aC,i64_w,i32_w];rfl);refine last_ (i:=15) (N:=none) (bz 16 65535) rfl rfl (one_of HT_.out (by kernel_rfl)) (by decide) (fun K hK=>?_);refine skip_ (w1:=?_) (by rfl) rfl ?_ ?_
         rotate_left
         ·go_simp
          rfl
         refine hK.out _ _ ?_;clear hK K;refine done_ (done_of HT_.out (by kernel_rfl)) ?_
         try go_wp2_with (first|((with_reducible refine Qj (f:=202) rfl ?_);refine goesL_ (some 47) rfl rfl Try.func202 (by kernel_rfl) rfl #[.slice A0 l0.length c0,.slice A1 l1.length c1,.slice A2 l2.length c2] rfl (by (try simp only [aD,aE,aF]);first|done|rfl|(simp only [aG,aH];rfl)) ?_;(with_reducible refine (impl_orderCost.calls kj5 _ _ l0 _ _ l1 _ _ l2 t113 _ ?side1 ?side2 ?side3 ?side4 ?side5 ?side6 A24.out).mono ?_);(case side1=>exact Kd.C_below HR0.out (by repeat first|(with_reducible first|exact HB.out|apply Qc|apply Qa|apply Qb|refine Qf ?_ GB22.out|refine Qf ?_ GB22.out)|exact HB.out));(case side2=>exact HC0.out);(case side3=>exact Kd.C_below HR1.out (by repeat first|(with_reducible first|exact HB.out|apply Qc|apply Qa|apply Qb|refine Qf ?_ GB22.out|refine Qf ?_ GB22.out)|exact HB.out));(case side4=>exact HC1.out);(case side5=>exact Kd.C_below HR2.out (by repeat first|(with_reducible first|exact HB.out|apply Qc|apply Qa|apply Qb|refine Qf ?_ GB22.out|refine Qf ?_ GB22.out)|exact HB.out));(case side6=>exact HC2.out);rintro e w' ⟨rfl,⟨nd,rfl⟩⟩;refine ⟨_,rfl,?_⟩)|((with_reducible refine Qj (f:=202) rfl ?_);refine goesL_ (some 51) rfl rfl Try.func202 (by kernel_rfl) rfl #[.slice A0 l0.length c0,.slice A1 l1.length c1,.slice (some ⟨go22,0,none⟩) y112.length co28] rfl (by (try simp only [aD,aE,aF]);first|done|(rw [show y112.length=t106.length from (Kd.Qg HQ30.out).1.symm] <;> rfl)|rfl|(simp only [aG,aH];rfl)) ?_;(with_reducible refine (impl_orderCost.calls kj5 _ _ l0 _ _ l1 _ _ y112 t114 _ ?side1 ?side2 ?side3 ?side4 ?side5 ?side6 A25.out).mono ?_);(case side1=>exact Kd.C_below HR0.out (by repeat first|(with_reducible first|exact HB.out|apply Qc|apply Qa|apply Qb|refine Qf ?_ GB22.out|refine Qf ?_ GB22.out)|exact HB.out));(case side2=>exact HC0.out);(case side3=>exact Kd.C_below HR1.out (by repeat first|(with_reducible first|exact HB.out|apply Qc|apply Qa|apply Qb|refine Qf ?_ GB22.out|refine Qf ?_ GB22.out)|exact HB.out));(case side4=>exact HC1.out);(case side5=>refine (Kd.Qg (e:=3) (base:=w.heap.size) (ok:=fun k_=>True) (n:=t106.length) (c:=co28) ?_).2.2;exact (by (with_reducible repeat first|apply Kd.Qd|apply Kd.Qe|apply Kd.R_drew);exact HQ30.out));(case side6=>rw [show y112.length=t106.length from (Kd.Qg HQ30.out).1.symm];exact (Kd.Qg HO108.out).2.1);rintro e w' ⟨rfl,⟨nd,rfl⟩⟩;refine ⟨_,rfl,?_⟩))
         go_ret2
         exact ⟨by first|rfl|(simp [errW_none,errW_some] <;> rfl)|(simp [*,errW_none,errW_some] <;> rfl),by repeat (first|(with_reducible first|exact HB.out|apply Qc|apply Qa|apply Qb|refine Qf ?_ GB22.out|refine Qf ?_ GB22.out)|exact HB.out)⟩
        ·rw [if_neg c21] at H;exact absurd H (by simp)
       ·rw [if_neg c20] at H;exact absurd H (by simp)
      ·rw [if_neg c19] at H;exact absurd H (by simp)
     ·rw [if_neg c18] at H;exact absurd H (by simp)

def spec_DrawPairCost.f (k:Nat) (l0:List Int):Option (List Int×List Int):=(spec_l1Cur_ways.f k l0 0 0).bind fun bt102=>(some (bt102.1,bt102.2.1))
set_option maxHeartbeats 8000000 in
set_option maxRecDepth 100000 in
theorem spec_DrawPairCost.calls (k:Nat) (A0:Option Addr) (c0:Nat) (l0:List Int) (r1:List Int) (r2:List Int) (w:World) (hr0:Kd.C (Kd.int .u8) w A0 l0.length l0) (hc0:l0.length≤c0) (h:spec_DrawPairCost.f k l0=some (r1,r2)) :
    Calls Try.prog 71 #[.slice A0 l0.length c0] w fun e w'=>∃ v0_ v1_:Value,e= .returned (.tuple #[v0_,v1_])∧Kd.R (Kd.int .i64) 3 w' w.heap.size (fun k_=>some k_≠(v1_:Value).ownBlock) v0_ r1∧Kd.R (Kd.int .i64) 3 w' w.heap.size (fun k_=>some k_≠(v0_:Value).ownBlock) v1_ r2∧Below w.heap.size w w':=by
  have hu135:=Try.underlying135;have HR0:=aM hr0;have HC0:=aM hc0;clear hr0 hc0;have HB:=aM (Below.refl w.heap.size w);have H:((spec_l1Cur_ways.f k l0 0 0).bind fun bt102=>(some (bt102.1,bt102.2.1)))=some (r1,r2):=h;clear h;replace H:=Option.bind_eq_some_iff.mp H;obtain ⟨⟨t102,t105,t108,t109⟩,A20,H⟩:=H;replace H:(some (t102,t105))=some (r1,r2):=H;have A2:=aM A20;clear A20;simp only [Option.some.injEq,Prod.mk.injEq] at H;obtain ⟨rfl,rfl⟩:=H;go_enter Try.func71,Try.ntmps71;go_wp2_with (first|((with_reducible refine gate_dst (N:=7) rfl ?_);refine box_event ?hg (N:=7) ?hd (cs:=#[.slice A0 l0.length c0,.int .i64 0,.int .u64 0]) (t:=135) ?hr ?_;(case hd=>rfl);(case hg=>rfl);(case hr=>first|(go_simp;done)|(go_simp;rfl));intro gb101 hg w3 hbox hb;have n0_:=aM (Qo (by repeat (with_reducible first|exact HB.out|apply Qc|apply Qa|apply Qb)) hb);have n1_:=aM ((show IsS135 w w3 gb101 l0 0 0 from ⟨A0,c0,hbox,(by rw [hg];exact (Qn (by repeat (with_reducible first|exact HB.out|apply Qc|apply Qa|apply Qb)))),HR0.out⟩));have n2_:=aM ((by rw [hg];exact (Qn (by repeat (with_reducible first|exact HB.out|apply Qc|apply Qa|apply Qb))):w.heap.size≤gb101));have n3_:=aM ((by rw [hg];exact (Qn (by repeat (with_reducible first|exact HB.out|apply Qc|apply Qa|apply Qb))):w.heap.size≤gb101));clear HB;have HB:=n0_;have HI101:=n1_;have GW101:=n2_;have GE101:=n3_;clear n0_ n1_ n2_ n3_ hb hbox hg)|((with_reducible refine Qj (f:=200) rfl ?_);refine goesL_ (some 9) rfl rfl Try.func200 (by kernel_rfl) rfl #[.pointer (some ⟨gb101,0,none⟩)] rfl (by (try simp only [aD,aE,aF]);first|done|rfl|(simp only [aG,aH];rfl)) ?_;(with_reducible refine (spec_l1Cur_ways.calls k gb101 l0 0 0 t102 t105 t108 t109 w _ ?side1 ?side2 A2.out).mono ?_);(case side1=>repeat first|(with_reducible first|exact HI101.out|apply IsS135.alloc|apply IsS135.drewN|apply IsS135.drew|apply IsS135.set_1|apply IsS135.set_2)|exact HI101.out);(case side2=>repeat first|(with_reducible first|exact HB.out|apply Qc|apply Qa|apply Qb|refine Qf ?_ (IsS135.ge HI101.out))|exact HB.out);rintro e w4 ⟨v103,v106,rfl,ho0,ho1,hi,hb,hk⟩;refine ⟨_,rfl,?_⟩;have n0_:=aM (Kd.R_lower ho0 (Qn (by repeat first|(with_reducible first|exact HB.out|apply Qc|apply Qa|apply Qb|refine Qf ?_ (IsS135.ge HI101.out))|exact HB.out)));have n1_:=aM (Kd.R_lower ho1 (Qn (by repeat first|(with_reducible first|exact HB.out|apply Qc|apply Qa|apply Qb|refine Qf ?_ (IsS135.ge HI101.out))|exact HB.out)));have n2_:=aM (hb);have n3_:=aM (hi);clear HB HI101;have HO104:=n0_;have HO107:=n1_;have HB:=n2_;have HI101:=n3_;clear n0_ n1_ n2_ n3_;(try clear hb);(try clear hb2);(try clear hk);(try clear hi);(try clear ho0);(try clear ho1)))
  go_ret2
  exact ⟨_,_,by first|rfl|(simp [errW_none,errW_some] <;> rfl)|(simp [*,errW_none,errW_some] <;> rfl),by (with_reducible repeat first|apply Kd.Qd|apply Kd.Qe|apply Kd.R_drew);exact HO104.out,by (with_reducible repeat first|apply Kd.Qd|apply Kd.Qe|apply Kd.R_drew);exact HO107.out,by repeat (first|(with_reducible first|exact HB.out|apply Qc|apply Qa|apply Qb|refine Qf ?_ (IsS135.ge HI101.out))|exact HB.out)⟩

def impl_PairCost.l0:Nat→List Int→Int→List Int→Int→Int→Option (Int×Bool)
  |0,_,_,_,_,_=>none
  |k+1,x1,x6,x13,x14,x15=>if x15<x14 then (if 0≤x15 then (if x15<(x13.length:Int) then (if x15<(x1.length:Int) then (impl_PairCost.l0 k x1 (wrap64 (x6+(wrap64 ((rd x13 x15) * (rd x1 x15))))) x13 x14 (wrap64 (x15+1))) else (none)) else (none)) else (none)) else (some (x6,true))
def impl_PairCost.f (k:Nat) (l0:List Int) (l1:List Int):Option (Int×Bool):=(impl_areUsed.f k l0 l1).bind fun t101=>(if t101=true then (impl_PairCost.l0 k l1 0 l0 (l0.length:Int) 0) else (some (0,false)))
set_option maxHeartbeats 8000000 in
set_option maxRecDepth 100000 in
theorem impl_PairCost.calls (k:Nat) (A0:Option Addr) (c0:Nat) (l0:List Int) (A1:Option Addr) (c1:Nat) (l1:List Int) (r1:Int) (r2:Bool) (w:World) (hr0:Kd.C (Kd.int .i64) w A0 l0.length l0) (hc0:l0.length≤c0) (hr1:Kd.C (Kd.int .i64) w A1 l1.length l1) (hc1:l1.length≤c1) (h:impl_PairCost.f k l0 l1=some (r1,r2)) :
    Calls Try.prog 72 #[.slice A0 l0.length c0,.slice A1 l1.length c1] w fun e w'=>e= .returned (.tuple #[.int .i64 r1,.bool r2])∧Below w.heap.size w w':=by
  have HR0:=aM hr0;have HC0:=aM hc0;clear hr0 hc0;have HR1:=aM hr1;have HC1:=aM hc1;clear hr1 hc1;have HB:=aM (Below.refl w.heap.size w);have H:((impl_areUsed.f k l0 l1).bind fun t101=>(if t101=true then (impl_PairCost.l0 k l1 0 l0 (l0.length:Int) 0) else (some (0,false))))=some (r1,r2):=h;clear h;replace H:=Option.bind_eq_some_iff.mp H;obtain ⟨t101,A30,H⟩:=H;replace H:(if t101=true then (impl_PairCost.l0 k l1 0 l0 (l0.length:Int) 0) else (some (0,false)))=some (r1,r2):=H;have A3:=aM A30;clear A30;by_cases c4:t101=true
  ·subst c4;have H1:(impl_PairCost.l0 k l1 0 l0 (l0.length:Int) 0)=some (r1,r2):=by rw [if_pos rfl] at H;exact H
   clear H;have H:=H1;clear H1;have H':=aM H;clear H;go_enter Try.func72,Try.ntmps72;go_wp2_with (first|((with_reducible refine Qj (f:=205) rfl ?_);refine goesL_ (some 11) rfl rfl Try.func205 (by kernel_rfl) rfl #[.slice A0 l0.length c0,.slice A1 l1.length c1] rfl (by (try simp only [aD,aE,aF]);first|done|rfl|(simp only [aG,aH];rfl)) ?_;(with_reducible refine (impl_areUsed.calls k _ _ l0 _ _ l1 true _ ?side1 ?side2 ?side3 ?side4 A3.out).mono ?_);(case side1=>repeat first|exact HR0.out|(with_reducible first|refine Kd.Qh ?_ _|refine Kd.Qi ?_ _|refine Kd.C_drew ?_));(case side2=>exact HC0.out);(case side3=>repeat first|exact HR1.out|(with_reducible first|refine Kd.Qh ?_ _|refine Kd.Qi ?_ _|refine Kd.C_drew ?_));(case side4=>exact HC1.out);rintro e w5 ⟨rfl,hb⟩;refine ⟨_,rfl,?_⟩;have n0_:=aM (Qo (by repeat (with_reducible first|exact HB.out|apply Qc|apply Qa|apply Qb)) hb);clear HB;have HB:=n0_;clear n0_ hb))
   go_loopg [6,15] k (fun kq v6 v15 w'=>∃ (x6_1:Int) (x15_1:Int),v6= .int .i64 x6_1∧v15= .int .i64 x15_1∧Aside0 (impl_PairCost.l0 kq l1 x6_1 l0 (l0.length:Int) x15_1=some (r1,r2))∧Aside0 (kq≤k)∧Aside0 (Below w.heap.size w w'))
   case atStart=>exact ⟨(0),(0),(by first|rfl|(simp;done)|(simp [*];done)),(by first|rfl|(simp;done)|(simp [*];done)),H',⟨Nat.le_refl _⟩,⟨by repeat (with_reducible first|exact HB.out|apply Qc|apply Qa|apply Qb)⟩⟩
   case round=>
    clear H';(try clear c1);(try clear c2);(try clear p2);(try clear c4);obtain ⟨x6_1,x15_1,rfl,rfl,HA,HK1,HB⟩:=hrel
    cases gk with
    |zero=>exact absurd HA.out (by simp [impl_PairCost.l0])
    |succ k1=>
     have H:=HA.out;clear HA;simp only [impl_PairCost.l0] at H;by_cases c6:x15_1<(l0.length:Int)
     ·rw [if_pos c6] at H;have c6b0:decide (x15_1<(l0.length:Int))=true:=aL c6;clear c6;by_cases c7:0≤x15_1
      ·rw [if_pos c7] at H;have c7b0:decide (0≤x15_1)=true:=aL c7;clear c7;by_cases c8:x15_1<(l0.length:Int)
       ·rw [if_pos c8] at H;have c8b0:decide (x15_1<(l0.length:Int))=true:=aL c8;clear c8;by_cases c9:x15_1<(l1.length:Int)
        ·rw [if_pos c9] at H;have c9b0:decide (x15_1<(l1.length:Int))=true:=aL c9;clear c9;have H':=aM H;clear H;have p102:0≤(x15_1:Int):=aK (by first|(with_reducible assumption)|assumption);have q102:x15_1<(l0.length:Int):=aK (by first|(with_reducible assumption)|assumption);obtain ⟨ad102,e102,hx102_0⟩:=Kd.at_int HR0.out x15_1 p102 q102
         cases e102
         replace hx102_0:=(HB.out.cell (aI w _ hx102_0)).trans hx102_0;replace p102:=eq_true p102;replace q102:=eq_true q102;have p103:0≤(x15_1:Int):=aK (by first|(with_reducible assumption)|assumption);have q103:x15_1<(l1.length:Int):=aK (by first|(with_reducible assumption)|assumption);obtain ⟨ad103,e103,hx103_0⟩:=Kd.at_int HR1.out x15_1 p103 q103
         cases e103
         replace hx103_0:=(HB.out.cell (aI w _ hx103_0)).trans hx103_0;replace p103:=eq_true p103;replace q103:=eq_true q103;go_wp2;go_roundg k1
         case measure=>have:=HK1.out;omega
         case rel=>exact ⟨(wrap64 (x6_1+(wrap64 ((rd l0 x15_1) * (rd l1 x15_1))))),(wrap64 (x15_1+1)),(by first|rfl|(simp;done)|(simp [*];done)),(by first|rfl|(simp;done)|(simp [*];done)),H',⟨by have:=HK1.out;omega⟩,⟨by repeat (with_reducible first|exact HB.out|apply Qc|apply Qa|apply Qb)⟩⟩
        ·rw [if_neg c9] at H;exact absurd H (by simp)
       ·rw [if_neg c8] at H;exact absurd H (by simp)
      ·rw [if_neg c7] at H;exact absurd H (by simp)
     ·rw [if_neg c6] at H;have c6b0:decide (x15_1<(l0.length:Int))=false:=aN c6;clear c6;simp only [Option.some.injEq,Prod.mk.injEq] at H;obtain ⟨rfl,rfl⟩:=H;go_wp2
      go_ret2
      exact ⟨by first|rfl|(simp [errW_none,errW_some] <;> rfl)|(simp [*,errW_none,errW_some] <;> rfl),by repeat (with_reducible first|exact HB.out|apply Qc|apply Qa|apply Qb)⟩
  ·replace c4:=Bool.eq_false_iff.mpr c4;subst c4;have H1:(some (0,false))=some (r1,r2):=by rw [if_neg (show ¬ (false=true) by decide)] at H;exact H
   clear H;have H:=H1;clear H1;simp only [Option.some.injEq,Prod.mk.injEq] at H;obtain ⟨rfl,rfl⟩:=H;go_enter Try.func72,Try.ntmps72;go_wp2_with (first|((with_reducible refine Qj (f:=205) rfl ?_);refine goesL_ (some 11) rfl rfl Try.func205 (by kernel_rfl) rfl #[.slice A0 l0.length c0,.slice A1 l1.length c1] rfl (by (try simp only [aD,aE,aF]);first|done|rfl|(simp only [aG,aH];rfl)) ?_;(with_reducible refine (impl_areUsed.calls k _ _ l0 _ _ l1 false _ ?side1 ?side2 ?side3 ?side4 A3.out).mono ?_);(case side1=>repeat first|exact HR0.out|(with_reducible first|refine Kd.Qh ?_ _|refine Kd.Qi ?_ _|refine Kd.C_drew ?_));(case side2=>exact HC0.out);(case side3=>repeat first|exact HR1.out|(with_reducible first|refine Kd.Qh ?_ _|refine Kd.Qi ?_ _|refine Kd.C_drew ?_));(case side4=>exact HC1.out);rintro e w10 ⟨rfl,hb⟩;refine ⟨_,rfl,?_⟩;have n0_:=aM (Qo (by repeat (with_reducible first|exact HB.out|apply Qc|apply Qa|apply Qb)) hb);clear HB;have HB:=n0_;clear n0_ hb))
   go_ret2
   exact ⟨by first|rfl|(simp [errW_none,errW_some] <;> rfl)|(simp [*,errW_none,errW_some] <;> rfl),by repeat (with_reducible first|exact HB.out|apply Qc|apply Qa|apply Qb)⟩

def spec_PairCost.l0:Nat→List Int→List Int→Int→Int→Int→Option (Int×Bool)
  |0,_,_,_,_,_=>none
  |k+1,x0,x1,x6,x13,x14=>if x14<x13 then (if 0≤x14 then (if x14<(x0.length:Int) then (if x14<(x1.length:Int) then (spec_PairCost.l0 k x0 x1 (wrap64 (x6+(wrap64 ((rd x0 x14) * (rd x1 x14))))) x13 (wrap64 (x14+1))) else (none)) else (none)) else (none)) else (some (x6,true))
def spec_PairCost.f (k:Nat) (l0:List Int) (l1:List Int):Option (Int×Bool):=(spec_l7Ways.f k l0 l1).bind fun t101=>(if t101=true then (spec_PairCost.l0 k l0 l1 0 (l0.length:Int) 0) else (some (0,false)))
set_option maxHeartbeats 8000000 in
set_option maxRecDepth 100000 in
theorem spec_PairCost.calls (k:Nat) (A0:Option Addr) (c0:Nat) (l0:List Int) (A1:Option Addr) (c1:Nat) (l1:List Int) (r1:Int) (r2:Bool) (w:World) (hr0:Kd.C (Kd.int .i64) w A0 l0.length l0) (hc0:l0.length≤c0) (hr1:Kd.C (Kd.int .i64) w A1 l1.length l1) (hc1:l1.length≤c1) (h:spec_PairCost.f k l0 l1=some (r1,r2)) :
    Calls Try.prog 73 #[.slice A0 l0.length c0,.slice A1 l1.length c1] w fun e w'=>e= .returned (.tuple #[.int .i64 r1,.bool r2])∧Drawn0 w w':=by
  have HR0:=aM hr0;have HC0:=aM hc0;clear hr0 hc0;have HR1:=aM hr1;have HC1:=aM hc1;clear hr1 hc1;have H:((spec_l7Ways.f k l0 l1).bind fun t101=>(if t101=true then (spec_PairCost.l0 k l0 l1 0 (l0.length:Int) 0) else (some (0,false))))=some (r1,r2):=h;clear h;replace H:=Option.bind_eq_some_iff.mp H;obtain ⟨t101,A30,H⟩:=H;replace H:(if t101=true then (spec_PairCost.l0 k l0 l1 0 (l0.length:Int) 0) else (some (0,false)))=some (r1,r2):=H;have A3:=aM A30;clear A30;by_cases c4:t101=true
  ·subst c4;have H1:(spec_PairCost.l0 k l0 l1 0 (l0.length:Int) 0)=some (r1,r2):=by rw [if_pos rfl] at H;exact H
   clear H;have H:=H1;clear H1;have H':=aM H;clear H;go_enter Try.func73,Try.ntmps73;go_wp2_with (first|(go_at_call 203;(with_reducible refine (spec_l7Ways.calls k _ _ l0 _ _ l1 true _ ?side1 ?side2 ?side3 ?side4 A3.out).mono ?_);(case side1=>repeat first|exact HR0.out|(with_reducible first|refine Kd.Qh ?_ _|refine Kd.Qi ?_ _|refine Kd.C_drew ?_));(case side2=>exact HC0.out);(case side3=>repeat first|exact HR1.out|(with_reducible first|refine Kd.Qh ?_ _|refine Kd.Qi ?_ _|refine Kd.C_drew ?_));(case side4=>exact HC1.out);rintro e w' ⟨rfl,⟨nd,rfl⟩⟩;(try first|exact ⟨rfl,_,World.drewN_drewN _ _ _⟩|exact ⟨rfl,_,Eq.trans (World.drewN_drewN _ _ _) (congrArg (World.drewN _) (Nat.add_assoc _ _ _))⟩)))
   repeat (go_quiet (first|(go_at_call 203;(with_reducible refine (spec_l7Ways.calls k _ _ l0 _ _ l1 true _ ?side1 ?side2 ?side3 ?side4 A3.out).mono ?_);(case side1=>repeat first|exact HR0.out|(with_reducible first|refine Kd.Qh ?_ _|refine Kd.Qi ?_ _|refine Kd.C_drew ?_));(case side2=>exact HC0.out);(case side3=>repeat first|exact HR1.out|(with_reducible first|refine Kd.Qh ?_ _|refine Kd.Qi ?_ _|refine Kd.C_drew ?_));(case side4=>exact HC1.out);rintro e w' ⟨rfl,⟨nd,rfl⟩⟩;(try first|exact ⟨rfl,_,World.drewN_drewN _ _ _⟩|exact ⟨rfl,_,Eq.trans (World.drewN_drewN _ _ _) (congrArg (World.drewN _) (Nat.add_assoc _ _ _))⟩)));try go_wp2_with (first|(go_at_call 203;(with_reducible refine (spec_l7Ways.calls k _ _ l0 _ _ l1 true _ ?side1 ?side2 ?side3 ?side4 A3.out).mono ?_);(case side1=>repeat first|exact HR0.out|(with_reducible first|refine Kd.Qh ?_ _|refine Kd.Qi ?_ _|refine Kd.C_drew ?_));(case side2=>exact HC0.out);(case side3=>repeat first|exact HR1.out|(with_reducible first|refine Kd.Qh ?_ _|refine Kd.Qi ?_ _|refine Kd.C_drew ?_));(case side4=>exact HC1.out);rintro e w' ⟨rfl,⟨nd,rfl⟩⟩;(try first|exact ⟨rfl,_,World.drewN_drewN _ _ _⟩|exact ⟨rfl,_,Eq.trans (World.drewN_drewN _ _ _) (congrArg (World.drewN _) (Nat.add_assoc _ _ _))⟩))))
   go_loopg [6,14] k (fun kq v6 v14 w'=>∃ (x6_1:Int) (x14_1:Int),v6= .int .i64 x6_1∧v14= .int .i64 x14_1∧Aside0 (spec_PairCost.l0 kq l0 l1 x6_1 (l0.length:Int) x14_1=some (r1,r2))∧Aside0 (kq≤k)∧Drawn0 w w')
   case atStart=>exact ⟨(0),(0),(by first|rfl|(simp;done)|(simp [*];done)),(by first|rfl|(simp;done)|(simp [*];done)),H',⟨Nat.le_refl _⟩,by repeat (first|exact Drawn0.refl _|apply Drawn0.step)⟩
   case round=>
    clear H';(try clear c1);(try clear p2);(try clear c4);obtain ⟨x6_1,x14_1,rfl,rfl,HA,HK1,⟨m1,rfl⟩⟩:=hrel
    cases gk with
    |zero=>exact absurd HA.out (by simp [spec_PairCost.l0])
    |succ k1=>
     have H:=HA.out;clear HA;simp only [spec_PairCost.l0] at H;by_cases c5:x14_1<(l0.length:Int)
     ·rw [if_pos c5] at H;have c5b0:decide (x14_1<(l0.length:Int))=true:=aL c5;clear c5;by_cases c6:0≤x14_1
      ·rw [if_pos c6] at H;have c6b0:decide (0≤x14_1)=true:=aL c6;clear c6;by_cases c7:x14_1<(l0.length:Int)
       ·rw [if_pos c7] at H;have c7b0:decide (x14_1<(l0.length:Int))=true:=aL c7;clear c7;by_cases c8:x14_1<(l1.length:Int)
        ·rw [if_pos c8] at H;have c8b0:decide (x14_1<(l1.length:Int))=true:=aL c8;clear c8;have H':=aM H;clear H;have p102:0≤(x14_1:Int):=aK (by first|(with_reducible assumption)|assumption);have q102:x14_1<(l0.length:Int):=aK (by first|(with_reducible assumption)|assumption);obtain ⟨ad102,e102,hx102_0⟩:=Kd.at_int HR0.out x14_1 p102 q102
         cases e102
         replace p102:=eq_true p102;replace q102:=eq_true q102;have p103:0≤(x14_1:Int):=aK (by first|(with_reducible assumption)|assumption);have q103:x14_1<(l1.length:Int):=aK (by first|(with_reducible assumption)|assumption);obtain ⟨ad103,e103,hx103_0⟩:=Kd.at_int HR1.out x14_1 p103 q103
         cases e103
         replace p103:=eq_true p103;replace q103:=eq_true q103;go_wp2
         repeat (go_quiet (fail);try go_wp2)
         go_roundg k1
         case measure=>have:=HK1.out;omega
         case rel=>exact ⟨(wrap64 (x6_1+(wrap64 ((rd l0 x14_1) * (rd l1 x14_1))))),(wrap64 (x14_1+1)),(by first|rfl|(simp;done)|(simp [*];done)),(by first|rfl|(simp;done)|(simp [*];done)),H',⟨by have:=HK1.out;omega⟩,by repeat (first|exact Drawn0.refl _|apply Drawn0.step)⟩
        ·rw [if_neg c8] at H;exact absurd H (by simp)
       ·rw [if_neg c7] at H;exact absurd H (by simp)
      ·rw [if_neg c6] at H;exact absurd H (by simp)
     ·rw [if_neg c5] at H;have c5b0:decide (x14_1<(l0.length:Int))=false:=aN c5;clear c5;simp only [Option.some.injEq,Prod.mk.injEq] at H;obtain ⟨rfl,rfl⟩:=H;go_wp2
      repeat (go_quiet (fail);try go_wp2)
      go_ret2
      exact ⟨by first|rfl|(simp;done)|(simp [*];done),by repeat (first|exact Drawn0.refl _|apply Drawn0.step)⟩
  ·replace c4:=Bool.eq_false_iff.mpr c4;subst c4;have H1:(some (0,false))=some (r1,r2):=by rw [if_neg (show ¬ (false=true) by decide)] at H;exact H
   clear H;have H:=H1;clear H1;simp only [Option.some.injEq,Prod.mk.injEq] at H;obtain ⟨rfl,rfl⟩:=H;go_enter Try.func73,Try.ntmps73;go_wp2_with (first|(go_at_call 203;(with_reducible refine (spec_l7Ways.calls k _ _ l0 _ _ l1 false _ ?side1 ?side2 ?side3 ?side4 A3.out).mono ?_);(case side1=>repeat first|exact HR0.out|(with_reducible first|refine Kd.Qh ?_ _|refine Kd.Qi ?_ _|refine Kd.C_drew ?_));(case side2=>exact HC0.out);(case side3=>repeat first|exact HR1.out|(with_reducible first|refine Kd.Qh ?_ _|refine Kd.Qi ?_ _|refine Kd.C_drew ?_));(case side4=>exact HC1.out);rintro e w' ⟨rfl,⟨nd,rfl⟩⟩;(try first|exact ⟨rfl,_,World.drewN_drewN _ _ _⟩|exact ⟨rfl,_,Eq.trans (World.drewN_drewN _ _ _) (congrArg (World.drewN _) (Nat.add_assoc _ _ _))⟩)))
   repeat (go_quiet (first|(go_at_call 203;(with_reducible refine (spec_l7Ways.calls k _ _ l0 _ _ l1 false _ ?side1 ?side2 ?side3 ?side4 A3.out).mono ?_);(case side1=>repeat first|exact HR0.out|(with_reducible first|refine Kd.Qh ?_ _|refine Kd.Qi ?_ _|refine Kd.C_drew ?_));(case side2=>exact HC0.out);(case side3=>repeat first|exact HR1.out|(with_reducible first|refine Kd.Qh ?_ _|refine Kd.Qi ?_ _|refine Kd.C_drew ?_));(case side4=>exact HC1.out);rintro e w' ⟨rfl,⟨nd,rfl⟩⟩;(try first|exact ⟨rfl,_,World.drewN_drewN _ _ _⟩|exact ⟨rfl,_,Eq.trans (World.drewN_drewN _ _ _) (congrArg (World.drewN _) (Nat.add_assoc _ _ _))⟩)));try go_wp2_with (first|(go_at_call 203;(with_reducible refine (spec_l7Ways.calls k _ _ l0 _ _ l1 false _ ?side1 ?side2 ?side3 ?side4 A3.out).mono ?_);(case side1=>repeat first|exact HR0.out|(with_reducible first|refine Kd.Qh ?_ _|refine Kd.Qi ?_ _|refine Kd.C_drew ?_));(case side2=>exact HC0.out);(case side3=>repeat first|exact HR1.out|(with_reducible first|refine Kd.Qh ?_ _|refine Kd.Qi ?_ _|refine Kd.C_drew ?_));(case side4=>exact HC1.out);rintro e w' ⟨rfl,⟨nd,rfl⟩⟩;(try first|exact ⟨rfl,_,World.drewN_drewN _ _ _⟩|exact ⟨rfl,_,Eq.trans (World.drewN_drewN _ _ _) (congrArg (World.drewN _) (Nat.add_assoc _ _ _))⟩))))
   go_ret2
   exact ⟨by first|rfl|(simp;done)|(simp [*];done),by repeat (first|exact Drawn0.refl _|apply Drawn0.step)⟩

def spec_DrawSwapGain.f (k:Nat) (l0:List Int):Option (List Int×List Int×List Int×Int×Int):=(spec_l1Cur_ways.f k l0 0 0).bind fun bt102=>((spec_l1Cur_order7.f k l0 bt102.2.2.1 bt102.2.2.2 (bt102.1.length:Int)).bind fun bt110=>((spec_l1Cur_pick.f l0 bt110.2.1 bt110.2.2 7).bind fun bt115=>((spec_l1Cur_pick.f l0 bt115.2.1 bt115.2.2 7).bind fun bt118=>(some (bt102.1,bt102.2.1,bt110.1,bt115.1,bt118.1)))))
set_option maxHeartbeats 8000000 in
set_option maxRecDepth 100000 in
theorem spec_DrawSwapGain.calls (k:Nat) (A0:Option Addr) (c0:Nat) (l0:List Int) (r1:List Int) (r2:List Int) (r3:List Int) (r4:Int) (r5:Int) (w:World) (hr0:Kd.C (Kd.int .u8) w A0 l0.length l0) (hc0:l0.length≤c0) (h:spec_DrawSwapGain.f k l0=some (r1,r2,r3,r4,r5)) :
    Calls Try.prog 74 #[.slice A0 l0.length c0] w fun e w'=>∃ v0_ v1_ v2_:Value,e= .returned (.tuple #[v0_,v1_,v2_,.int .i64 r4,.int .i64 r5])∧Kd.R (Kd.int .i64) 3 w' w.heap.size (fun k_=>some k_≠(v1_:Value).ownBlock∧some k_≠(v2_:Value).ownBlock) v0_ r1∧Kd.R (Kd.int .i64) 3 w' w.heap.size (fun k_=>some k_≠(v0_:Value).ownBlock∧some k_≠(v2_:Value).ownBlock) v1_ r2∧Kd.R (Kd.int .i64) 3 w' w.heap.size (fun k_=>some k_≠(v0_:Value).ownBlock∧some k_≠(v1_:Value).ownBlock) v2_ r3∧Below w.heap.size w w':=by
  have hu135:=Try.underlying135;have HR0:=aM hr0;have HC0:=aM hc0;clear hr0 hc0;have HB:=aM (Below.refl w.heap.size w);have H:((spec_l1Cur_ways.f k l0 0 0).bind fun bt102=>((spec_l1Cur_order7.f k l0 bt102.2.2.1 bt102.2.2.2 (bt102.1.length:Int)).bind fun bt110=>((spec_l1Cur_pick.f l0 bt110.2.1 bt110.2.2 7).bind fun bt115=>((spec_l1Cur_pick.f l0 bt115.2.1 bt115.2.2 7).bind fun bt118=>(some (bt102.1,bt102.2.1,bt110.1,bt115.1,bt118.1))))))=some (r1,r2,r3,r4,r5):=h;clear h;replace H:=Option.bind_eq_some_iff.mp H;obtain ⟨⟨t102,t105,t108,t109⟩,A20,H⟩:=H;replace H:((spec_l1Cur_order7.f k l0 t108 t109 (t102.length:Int)).bind fun bt110=>((spec_l1Cur_pick.f l0 bt110.2.1 bt110.2.2 7).bind fun bt115=>((spec_l1Cur_pick.f l0 bt115.2.1 bt115.2.2 7).bind fun bt118=>(some (t102,t105,bt110.1,bt115.1,bt118.1)))))=some (r1,r2,r3,r4,r5):=H;have A2:=aM A20;clear A20;replace H:=Option.bind_eq_some_iff.mp H;obtain ⟨⟨t110,t113,t114⟩,A30,H⟩:=H;replace H:((spec_l1Cur_pick.f l0 t113 t114 7).bind fun bt115=>((spec_l1Cur_pick.f l0 bt115.2.1 bt115.2.2 7).bind fun bt118=>(some (t102,t105,t110,bt115.1,bt118.1))))=some (r1,r2,r3,r4,r5):=H;have A3:=aM A30;clear A30;replace H:=Option.bind_eq_some_iff.mp H;obtain ⟨⟨t115,t116,t117⟩,A40,H⟩:=H;replace H:((spec_l1Cur_pick.f l0 t116 t117 7).bind fun bt118=>(some (t102,t105,t110,t115,bt118.1)))=some (r1,r2,r3,r4,r5):=H;have A4:=aM A40;clear A40;replace H:=Option.bind_eq_some_iff.mp H;obtain ⟨⟨t118,t119,t120⟩,A50,H⟩:=H;replace H:(some (t102,t105,t110,t115,t118))=some (r1,r2,r3,r4,r5):=H;have A5:=aM A50;clear A50;simp only [Option.some.injEq,Prod.mk.injEq] at H;obtain ⟨rfl,rfl,rfl,rfl,rfl⟩:=H;go_enter Try.func74,Try.ntmps74;go_wp2_with (first|((with_reducible refine gate_dst (N:=12) rfl ?_);refine box_event ?hg (N:=12) ?hd (cs:=#[.slice A0 l0.length c0,.int .i64 0,.int .u64 0]) (t:=135) ?hr ?_;(case hd=>rfl);(case hg=>rfl);(case hr=>first|(go_simp;done)|(go_simp;rfl));intro gb101 hg w6 hbox hb;have n0_:=aM (Qo (by repeat (with_reducible first|exact HB.out|apply Qc|apply Qa|apply Qb)) hb);have n1_:=aM ((show IsS135 w w6 gb101 l0 0 0 from ⟨A0,c0,hbox,(by rw [hg];exact (Qn (by repeat (with_reducible first|exact HB.out|apply Qc|apply Qa|apply Qb)))),HR0.out⟩));have n2_:=aM ((by rw [hg];exact (Qn (by repeat (with_reducible first|exact HB.out|apply Qc|apply Qa|apply Qb))):w.heap.size≤gb101));have n3_:=aM ((by rw [hg];exact (Qn (by repeat (with_reducible first|exact HB.out|apply Qc|apply Qa|apply Qb))):w.heap.size≤gb101));clear HB;have HB:=n0_;have HI101:=n1_;have GW101:=n2_;have GE101:=n3_;clear n0_ n1_ n2_ n3_ hb hbox hg)|((with_reducible refine Qj (f:=200) rfl ?_);refine goesL_ (some 15) rfl rfl Try.func200 (by kernel_rfl) rfl #[.pointer (some ⟨gb101,0,none⟩)] rfl (by (try simp only [aD,aE,aF]);first|done|rfl|(simp only [aG,aH];rfl)) ?_;(with_reducible refine (spec_l1Cur_ways.calls k gb101 l0 0 0 t102 t105 t108 t109 w _ ?side1 ?side2 A2.out).mono ?_);(case side1=>repeat first|(with_reducible first|exact HI101.out|apply IsS135.alloc|apply IsS135.drewN|apply IsS135.drew|apply IsS135.set_1|apply IsS135.set_2)|exact HI101.out);(case side2=>repeat first|(with_reducible first|exact HB.out|apply Qc|apply Qa|apply Qb|refine Qf ?_ (IsS135.ge HI101.out))|exact HB.out);rintro e w7 ⟨v103,v106,rfl,ho0,ho1,hi,hb,hk⟩;refine ⟨_,rfl,?_⟩;have n0_:=aM (Kd.R_lower ho0 (Qn (by repeat first|(with_reducible first|exact HB.out|apply Qc|apply Qa|apply Qb|refine Qf ?_ (IsS135.ge HI101.out))|exact HB.out)));have n1_:=aM (Kd.R_lower ho1 (Qn (by repeat first|(with_reducible first|exact HB.out|apply Qc|apply Qa|apply Qb|refine Qf ?_ (IsS135.ge HI101.out))|exact HB.out)));have n2_:=aM (hb);have n3_:=aM (hi);clear HB HI101;have HO104:=n0_;have HO107:=n1_;have HB:=n2_;have HI101:=n3_;clear n0_ n1_ n2_ n3_;(try clear hb);(try clear hb2);(try clear hk);(try clear hi);(try clear ho0);(try clear ho1);obtain ⟨Ao8,co8,eo8⟩:=Kd.R_slice HO104.out;subst eo8)|((with_reducible refine Qj (f:=191) rfl ?_);refine goesL_ (some 23) rfl rfl Try.func191 (by kernel_rfl) rfl #[.pointer (some ⟨gb101,0,none⟩),.int .i64 (t102.length:Int)] rfl (by (try simp only [aD,aE,aF]);first|done|rfl|(simp only [aG,aH];rfl)) ?_;(with_reducible refine (spec_l1Cur_order7.calls k gb101 l0 t108 t109 (t102.length:Int) t110 t113 t114 w _ ?side1 ?side2 A3.out).mono ?_);(case side1=>repeat first|(with_reducible first|exact HI101.out|apply IsS135.alloc|apply IsS135.drewN|apply IsS135.drew|apply IsS135.set_1|apply IsS135.set_2)|exact HI101.out);(case side2=>repeat first|(with_reducible first|exact HB.out|apply Qc|apply Qa|apply Qb|refine Qf ?_ (IsS135.ge HI101.out))|exact HB.out);rintro e w9 ⟨v111,rfl,ho0,hi,hb,hk⟩;refine ⟨_,rfl,?_⟩;have n0_:=aM (Kd.R_mono (Kd.R_told (Kd.R_oldK (IsS135.apart (show IsS135 w _ gb101 l0 t108 t109 from by repeat first|(with_reducible first|exact HI101.out|apply IsS135.alloc|apply IsS135.drewN|apply IsS135.drew|apply IsS135.set_1|apply IsS135.set_2)|exact HI101.out) (by (with_reducible repeat first|apply Kd.Qd|apply Kd.Qe|apply Kd.R_drew);exact HO104.out) (by decide)) hk) (Kd.R_base ho0)) (fun _ h_=>h_.1));have n1_:=aM (Kd.R_mono (Kd.R_told (Kd.R_oldK (IsS135.apart (show IsS135 w _ gb101 l0 t108 t109 from by repeat first|(with_reducible first|exact HI101.out|apply IsS135.alloc|apply IsS135.drewN|apply IsS135.drew|apply IsS135.set_1|apply IsS135.set_2)|exact HI101.out) (by (with_reducible repeat first|apply Kd.Qd|apply Kd.Qe|apply Kd.R_drew);exact HO107.out) (by decide)) hk) (Kd.R_base ho0)) (fun _ h_=>h_.1));have n2_:=aM (Kd.R_lower (Kd.R_new' (Kd.R_new' ho0 (Kd.R_lt (by (with_reducible repeat first|apply Kd.Qd|apply Kd.Qe|apply Kd.R_drew);exact HO104.out))) (Kd.R_lt (by (with_reducible repeat first|apply Kd.Qd|apply Kd.Qe|apply Kd.R_drew);exact HO107.out))) (Qn (by repeat first|(with_reducible first|exact HB.out|apply Qc|apply Qa|apply Qb|refine Qf ?_ (IsS135.ge HI101.out))|exact HB.out)));have n3_:=aM (hb);have n4_:=aM (hi);clear HO104 HO107 HB HI101;have HO104:=n0_;have HO107:=n1_;have HO112:=n2_;have HB:=n3_;have HI101:=n4_;clear n0_ n1_ n2_ n3_ n4_;(try clear hb);(try clear hb2);(try clear hk);(try clear hi);(try clear ho0))|((with_reducible refine Qj (f:=148) rfl ?_);refine goesL_ (some 25) rfl rfl Try.func148 (by kernel_rfl) rfl #[.pointer (some ⟨gb101,0,none⟩),.int .i64 7] rfl (by (try simp only [aD,aE,aF]);first|done|rfl|(simp only [aG,aH];rfl)) ?_;(with_reducible refine (spec_l1Cur_pick.calls gb101 l0 t113 t114 7 t115 t116 t117 w _ ?side1 ?side2 A4.out).mono ?_);(case side1=>repeat first|(with_reducible first|exact HI101.out|apply IsS135.alloc|apply IsS135.drewN|apply IsS135.drew|apply IsS135.set_1|apply IsS135.set_2)|exact HI101.out);(case side2=>repeat first|(with_reducible first|exact HB.out|apply Qc|apply Qa|apply Qb|refine Qf ?_ (IsS135.ge HI101.out))|exact HB.out);rintro e w10 ⟨rfl,hi,hb,hk⟩;refine ⟨_,rfl,?_⟩;have n0_:=aM (Kd.R_mono (Kd.R_keep (IsS135.apart (show IsS135 w _ gb101 l0 t113 t114 from by repeat first|(with_reducible first|exact HI101.out|apply IsS135.alloc|apply IsS135.drewN|apply IsS135.drew|apply IsS135.set_1|apply IsS135.set_2)|exact HI101.out) (by (with_reducible repeat first|apply Kd.Qd|apply Kd.Qe|apply Kd.R_drew);exact HO104.out) (by decide)) hk (fun _ h=>h.2)) (fun _ h=>h.1));have n1_:=aM (Kd.R_mono (Kd.R_keep (IsS135.apart (show IsS135 w _ gb101 l0 t113 t114 from by repeat first|(with_reducible first|exact HI101.out|apply IsS135.alloc|apply IsS135.drewN|apply IsS135.drew|apply IsS135.set_1|apply IsS135.set_2)|exact HI101.out) (by (with_reducible repeat first|apply Kd.Qd|apply Kd.Qe|apply Kd.R_drew);exact HO107.out) (by decide)) hk (fun _ h=>h.2)) (fun _ h=>h.1));have n2_:=aM (Kd.R_mono (Kd.R_keep (IsS135.apart (show IsS135 w _ gb101 l0 t113 t114 from by repeat first|(with_reducible first|exact HI101.out|apply IsS135.alloc|apply IsS135.drewN|apply IsS135.drew|apply IsS135.set_1|apply IsS135.set_2)|exact HI101.out) (by (with_reducible repeat first|apply Kd.Qd|apply Kd.Qe|apply Kd.R_drew);exact HO112.out) (by decide)) hk (fun _ h=>h.2)) (fun _ h=>h.1));have n3_:=aM (hb);have n4_:=aM (hi);clear HO104 HO107 HO112 HB HI101;have HO104:=n0_;have HO107:=n1_;have HO112:=n2_;have HB:=n3_;have HI101:=n4_;clear n0_ n1_ n2_ n3_ n4_;(try clear hb);(try clear hb2);(try clear hk);(try clear hi))|((with_reducible refine Qj (f:=148) rfl ?_);refine goesL_ (some 27) rfl rfl Try.func148 (by kernel_rfl) rfl #[.pointer (some ⟨gb101,0,none⟩),.int .i64 7] rfl (by (try simp only [aD,aE,aF]);first|done|rfl|(simp only [aG,aH];rfl)) ?_;(with_reducible refine (spec_l1Cur_pick.calls gb101 l0 t116 t117 7 t118 t119 t120 w _ ?side1 ?side2 A5.out).mono ?_);(case side1=>repeat first|(with_reducible first|exact HI101.out|apply IsS135.alloc|apply IsS135.drewN|apply IsS135.drew|apply IsS135.set_1|apply IsS135.set_2)|exact HI101.out);(case side2=>repeat first|(with_reducible first|exact HB.out|apply Qc|apply Qa|apply Qb|refine Qf ?_ (IsS135.ge HI101.out))|exact HB.out);rintro e w11 ⟨rfl,hi,hb,hk⟩;refine ⟨_,rfl,?_⟩;have n0_:=aM (Kd.R_mono (Kd.R_keep (IsS135.apart (show IsS135 w _ gb101 l0 t116 t117 from by repeat first|(with_reducible first|exact HI101.out|apply IsS135.alloc|apply IsS135.drewN|apply IsS135.drew|apply IsS135.set_1|apply IsS135.set_2)|exact HI101.out) (by (with_reducible repeat first|apply Kd.Qd|apply Kd.Qe|apply Kd.R_drew);exact HO104.out) (by decide)) hk (fun _ h=>h.2)) (fun _ h=>h.1));have n1_:=aM (Kd.R_mono (Kd.R_keep (IsS135.apart (show IsS135 w _ gb101 l0 t116 t117 from by repeat first|(with_reducible first|exact HI101.out|apply IsS135.alloc|apply IsS135.drewN|apply IsS135.drew|apply IsS135.set_1|apply IsS135.set_2)|exact HI101.out) (by (with_reducible repeat first|apply Kd.Qd|apply Kd.Qe|apply Kd.R_drew);exact HO107.out) (by decide)) hk (fun _ h=>h.2)) (fun _ h=>h.1));have n2_:=aM (Kd.R_mono (Kd.R_keep (IsS135.apart (show IsS135 w _ gb101 l0 t116 t117 from by repeat first|(with_reducible first|exact HI101.out|apply IsS135.alloc|apply IsS135.drewN|apply IsS135.drew|apply IsS135.set_1|apply IsS135.set_2)|exact HI101.out) (by (with_reducible repeat first|apply Kd.Qd|apply Kd.Qe|apply Kd.R_drew);exact HO112.out) (by decide)) hk (fun _ h=>h.2)) (fun _ h=>h.1));have n3_:=aM (hb);have n4_:=aM (hi);clear HO104 HO107 HO112 HB HI101;have HO104:=n0_;have HO107:=n1_;have HO112:=n2_;have HB:=n3_;have HI101:=n4_;clear n0_ n1_ n2_ n3_ n4_;(try clear hb);(try clear hb2);(try clear hk);(try clear hi)))
  refine bodyPost_ret (results_list (rs:=[.tmp 2,.tmp 3,.tmp 4,.tmp 5,.tmp 6]) rfl (by simp) (.tmp (.tmp (.tmp (.tmp (.tmp .nil)))))) rfl ?_;exact ⟨_,_,_,by first|rfl|(simp [errW_none,errW_some] <;> rfl)|(simp [*,errW_none,errW_some] <;> rfl),by (with_reducible repeat first|apply Kd.Qd|apply Kd.Qe|apply Kd.R_drew);exact HO104.out,by (with_reducible repeat first|apply Kd.Qd|apply Kd.Qe|apply Kd.R_drew);exact HO107.out,by (with_reducible repeat first|apply Kd.Qd|apply Kd.Qe|apply Kd.R_drew);exact Kd.R_mono HO112.out (fun _ hk=>⟨hk.1.2,hk.2⟩),by repeat (first|(with_reducible first|exact HB.out|apply Qc|apply Qa|apply Qb|refine Qf ?_ (IsS135.ge HI101.out))|exact HB.out)⟩

def spec_SwapGain.j0:Nat→List Int→List Int→List Int→Int→Int→Bool→Option (Int×Bool)
  |0,_,_,_,_,_,_=>none
  |k+1,x0,x1,x2,x3,x4,x43=>if x43=true then (some (0,false)) else ((some (([]:List Int):List Int)).bind fun y103=>(if y103.length+x2.length<17592186044416 then ((some (y103 ++ x2:List Int)).bind fun y106=>(if 0≤x4 then (if x4<(x2.length:Int) then (if 0≤x3 then (if x3<(y106.length:Int) then (if x3<(x2.length:Int) then (if x4<(y106.length:Int) then ((spec_l7Cost.f k x0 x1 x2).bind fun t113=>((spec_l7Cost.f k x0 x1 ((y106.set (x3:Int).toNat (rd x2 x4)).set (x4:Int).toNat (rd x2 x3))).bind fun t114=>(some (wrap64 (t113 - t114),true)))) else (none)) else (none)) else (none)) else (none)) else (none)) else (none))) else (none)))
def spec_SwapGain.f (k:Nat) (l0:List Int) (l1:List Int) (l2:List Int) (a3:Int) (a4:Int):Option (Int×Bool):=(spec_l7Ways.f k l0 l1).bind fun t101=>(if t101=true then ((spec_l7Order.f k l2 (l0.length:Int)).bind fun t102=>(if t102=true then (if a3<0 then (spec_SwapGain.j0 k l0 l1 l2 a3 a4 true) else (if a3 ≥ (l0.length:Int) then (spec_SwapGain.j0 k l0 l1 l2 a3 a4 true) else (if a4<0 then (spec_SwapGain.j0 k l0 l1 l2 a3 a4 true) else (spec_SwapGain.j0 k l0 l1 l2 a3 a4 (decide (a4 ≥ (l0.length:Int))))))) else (spec_SwapGain.j0 k l0 l1 l2 a3 a4 true))) else (spec_SwapGain.j0 k l0 l1 l2 a3 a4 true))
set_option maxHeartbeats 8000000 in
set_option maxRecDepth 100000 in
theorem spec_SwapGain.calls (k:Nat) (A0:Option Addr) (c0:Nat) (l0:List Int) (A1:Option Addr) (c1:Nat) (l1:List Int) (A2:Option Addr) (c2:Nat) (l2:List Int) (a3:Int) (a4:Int) (r1:Int) (r2:Bool) (w:World) (hr0:Kd.C (Kd.int .i64) w A0 l0.length l0) (hc0:l0.length≤c0) (hr1:Kd.C (Kd.int .i64) w A1 l1.length l1) (hc1:l1.length≤c1) (hr2:Kd.C (Kd.int .i64) w A2 l2.length l2) (hc2:l2.length≤c2) (h:spec_SwapGain.f k l0 l1 l2 a3 a4=some (r1,r2)) :
    Calls Try.prog 75 #[.slice A0 l0.length c0,.slice A1 l1.length c1,.slice A2 l2.length c2,.int .i64 a3,.int .i64 a4] w fun e w'=>e= .returned (.tuple #[.int .i64 r1,.bool r2])∧Below w.heap.size w w':=by
  have HR0:=aM hr0;have HC0:=aM hc0;clear hr0 hc0;have HR1:=aM hr1;have HC1:=aM hc1;clear hr1 hc1;have HR2:=aM hr2;have HC2:=aM hc2;clear hr2 hc2;have HB:=aM (Below.refl w.heap.size w);have H:((spec_l7Ways.f k l0 l1).bind fun t101=>(if t101=true then ((spec_l7Order.f k l2 (l0.length:Int)).bind fun t102=>(if t102=true then (if a3<0 then (spec_SwapGain.j0 k l0 l1 l2 a3 a4 true) else (if a3 ≥ (l0.length:Int) then (spec_SwapGain.j0 k l0 l1 l2 a3 a4 true) else (if a4<0 then (spec_SwapGain.j0 k l0 l1 l2 a3 a4 true) else (spec_SwapGain.j0 k l0 l1 l2 a3 a4 (decide (a4 ≥ (l0.length:Int))))))) else (spec_SwapGain.j0 k l0 l1 l2 a3 a4 true))) else (spec_SwapGain.j0 k l0 l1 l2 a3 a4 true)))=some (r1,r2):=h;clear h;have HC6:=aM H;clear H;go_enter Try.func75,Try.ntmps75
  go_upto_region 1 with (fail)
  go_cut [43] (fun v43 wc=>∃ (kq:Nat) (x43_5:Bool),v43= .bool x43_5∧Aside0 (spec_SwapGain.j0 kq l0 l1 l2 a3 a4 x43_5=some (r1,r2))∧Aside0 (kq≤k)∧Aside0 (Below w.heap.size w wc))
  case first=>
   have H:=HC6.out;clear HC6;replace H:=Option.bind_eq_some_iff.mp H;obtain ⟨t101,A70,H⟩:=H;replace H:(if t101=true then ((spec_l7Order.f k l2 (l0.length:Int)).bind fun t102=>(if t102=true then (if a3<0 then (spec_SwapGain.j0 k l0 l1 l2 a3 a4 true) else (if a3 ≥ (l0.length:Int) then (spec_SwapGain.j0 k l0 l1 l2 a3 a4 true) else (if a4<0 then (spec_SwapGain.j0 k l0 l1 l2 a3 a4 true) else (spec_SwapGain.j0 k l0 l1 l2 a3 a4 (decide (a4 ≥ (l0.length:Int))))))) else (spec_SwapGain.j0 k l0 l1 l2 a3 a4 true))) else (spec_SwapGain.j0 k l0 l1 l2 a3 a4 true))=some (r1,r2):=H;have A7:=aM A70;clear A70;by_cases c8:t101=true
   ·subst c8;have H1:((spec_l7Order.f k l2 (l0.length:Int)).bind fun t102=>(if t102=true then (if a3<0 then (spec_SwapGain.j0 k l0 l1 l2 a3 a4 true) else (if a3 ≥ (l0.length:Int) then (spec_SwapGain.j0 k l0 l1 l2 a3 a4 true) else (if a4<0 then (spec_SwapGain.j0 k l0 l1 l2 a3 a4 true) else (spec_SwapGain.j0 k l0 l1 l2 a3 a4 (decide (a4 ≥ (l0.length:Int))))))) else (spec_SwapGain.j0 k l0 l1 l2 a3 a4 true)))=some (r1,r2):=by rw [if_pos rfl] at H;exact H
    clear H;have H:=H1;clear H1;replace H:=Option.bind_eq_some_iff.mp H;obtain ⟨t102,A90,H⟩:=H;replace H:(if t102=true then (if a3<0 then (spec_SwapGain.j0 k l0 l1 l2 a3 a4 true) else (if a3 ≥ (l0.length:Int) then (spec_SwapGain.j0 k l0 l1 l2 a3 a4 true) else (if a4<0 then (spec_SwapGain.j0 k l0 l1 l2 a3 a4 true) else (spec_SwapGain.j0 k l0 l1 l2 a3 a4 (decide (a4 ≥ (l0.length:Int))))))) else (spec_SwapGain.j0 k l0 l1 l2 a3 a4 true))=some (r1,r2):=H;have A9:=aM A90;clear A90;by_cases c10:t102=true
    ·subst c10;have H1:(if a3<0 then (spec_SwapGain.j0 k l0 l1 l2 a3 a4 true) else (if a3 ≥ (l0.length:Int) then (spec_SwapGain.j0 k l0 l1 l2 a3 a4 true) else (if a4<0 then (spec_SwapGain.j0 k l0 l1 l2 a3 a4 true) else (spec_SwapGain.j0 k l0 l1 l2 a3 a4 (decide (a4 ≥ (l0.length:Int)))))))=some (r1,r2):=by rw [if_pos rfl] at H;exact H
     clear H;have H:=H1;clear H1;by_cases c11:a3<0
     ·rw [if_pos c11] at H;have c11b0:decide (a3<0)=true:=aL c11;clear c11
      (first|rw [c11b0]|(simp only [i64_w,i32_w];rw [c11b0])|skip)
      have H':=aM H;clear H;go_wp2_with (first|((with_reducible refine Qj (f:=203) rfl ?_);refine goesL_ (some 15) rfl rfl Try.func203 (by kernel_rfl) rfl #[.slice A0 l0.length c0,.slice A1 l1.length c1] rfl (by (try simp only [aD,aE,aF]);first|done|rfl|(simp only [aG,aH];rfl)) ?_;(with_reducible refine (spec_l7Ways.calls k _ _ l0 _ _ l1 true _ ?side1 ?side2 ?side3 ?side4 A7.out).mono ?_);(case side1=>repeat first|exact (Kd.C_below HR0.out HB.out)|(with_reducible first|refine Kd.Qh ?_ _|refine Kd.Qi ?_ _|refine Kd.C_drew ?_));(case side2=>exact HC0.out);(case side3=>repeat first|exact (Kd.C_below HR1.out HB.out)|(with_reducible first|refine Kd.Qh ?_ _|refine Kd.Qi ?_ _|refine Kd.C_drew ?_));(case side4=>exact HC1.out);rintro e w' ⟨rfl,⟨nd,rfl⟩⟩;refine ⟨_,rfl,?_⟩)|(go_at_call 195;(with_reducible refine (spec_l7Order.calls k _ _ l2 (l0.length:Int) true _ ?side1 ?side2 A9.out).mono ?_);(case side1=>repeat first|exact (Kd.C_below HR2.out (by repeat (with_reducible first|exact HB.out|apply Qc|apply Qa|apply Qb)))|(with_reducible first|refine Kd.Qh ?_ _|refine Kd.Qi ?_ _|refine Kd.C_drew ?_));(case side2=>exact HC2.out);rintro e w' ⟨rfl,⟨nd,rfl⟩⟩))
      go_meet
      case rel=>exact ⟨_,(true),(by first|rfl|(simp;done)|(simp [*];done)),H',⟨by first|omega|exact Nat.le_refl _⟩,⟨by repeat (with_reducible first|exact HB.out|apply Qc|apply Qa|apply Qb)⟩⟩
     ·rw [if_neg c11] at H;have c11b0:decide (a3<0)=false:=aN c11;clear c11
      (first|rw [c11b0]|(simp only [i64_w,i32_w];rw [c11b0])|skip)
      by_cases c12:a3 ≥ (l0.length:Int)
      ·rw [if_pos c12] at H;have c12b0:decide ((l0.length:Int)≤a3)=true:=aL c12;clear c12;have H':=aM H;clear H;go_wp2_with (first|((with_reducible refine Qj (f:=203) rfl ?_);refine goesL_ (some 15) rfl rfl Try.func203 (by kernel_rfl) rfl #[.slice A0 l0.length c0,.slice A1 l1.length c1] rfl (by (try simp only [aD,aE,aF]);first|done|rfl|(simp only [aG,aH];rfl)) ?_;(with_reducible refine (spec_l7Ways.calls k _ _ l0 _ _ l1 true _ ?side1 ?side2 ?side3 ?side4 A7.out).mono ?_);(case side1=>repeat first|exact (Kd.C_below HR0.out HB.out)|(with_reducible first|refine Kd.Qh ?_ _|refine Kd.Qi ?_ _|refine Kd.C_drew ?_));(case side2=>exact HC0.out);(case side3=>repeat first|exact (Kd.C_below HR1.out HB.out)|(with_reducible first|refine Kd.Qh ?_ _|refine Kd.Qi ?_ _|refine Kd.C_drew ?_));(case side4=>exact HC1.out);rintro e w' ⟨rfl,⟨nd,rfl⟩⟩;refine ⟨_,rfl,?_⟩)|(go_at_call 195;(with_reducible refine (spec_l7Order.calls k _ _ l2 (l0.length:Int) true _ ?side1 ?side2 A9.out).mono ?_);(case side1=>repeat first|exact (Kd.C_below HR2.out (by repeat (with_reducible first|exact HB.out|apply Qc|apply Qa|apply Qb)))|(with_reducible first|refine Kd.Qh ?_ _|refine Kd.Qi ?_ _|refine Kd.C_drew ?_));(case side2=>exact HC2.out);rintro e w' ⟨rfl,⟨nd,rfl⟩⟩))
       go_meet
       case rel=>exact ⟨_,(true),(by first|rfl|(simp;done)|(simp [*];done)),H',⟨by first|omega|exact Nat.le_refl _⟩,⟨by repeat (with_reducible first|exact HB.out|apply Qc|apply Qa|apply Qb)⟩⟩
      ·rw [if_neg c12] at H;have c12b0:decide ((l0.length:Int)≤a3)=false:=aN c12;clear c12;by_cases c13:a4<0
       ·rw [if_pos c13] at H;have c13b0:decide (a4<0)=true:=aL c13;clear c13;have H':=aM H;clear H;go_wp2_with (first|((with_reducible refine Qj (f:=203) rfl ?_);refine goesL_ (some 15) rfl rfl Try.func203 (by kernel_rfl) rfl #[.slice A0 l0.length c0,.slice A1 l1.length c1] rfl (by (try simp only [aD,aE,aF]);first|done|rfl|(simp only [aG,aH];rfl)) ?_;(with_reducible refine (spec_l7Ways.calls k _ _ l0 _ _ l1 true _ ?side1 ?side2 ?side3 ?side4 A7.out).mono ?_);(case side1=>repeat first|exact (Kd.C_below HR0.out HB.out)|(with_reducible first|refine Kd.Qh ?_ _|refine Kd.Qi ?_ _|refine Kd.C_drew ?_));(case side2=>exact HC0.out);(case side3=>repeat first|exact (Kd.C_below HR1.out HB.out)|(with_reducible first|refine Kd.Qh ?_ _|refine Kd.Qi ?_ _|refine Kd.C_drew ?_));(case side4=>exact HC1.out);rintro e w' ⟨rfl,⟨nd,rfl⟩⟩;refine ⟨_,rfl,?_⟩)|(go_at_call 195;(with_reducible refine (spec_l7Order.calls k _ _ l2 (l0.length:Int) true _ ?side1 ?side2 A9.out).mono ?_);(case side1=>repeat first|exact (Kd.C_below HR2.out (by repeat (with_reducible first|exact HB.out|apply Qc|apply Qa|apply Qb)))|(with_reducible first|refine Kd.Qh ?_ _|refine Kd.Qi ?_ _|refine Kd.C_drew ?_));(case side2=>exact HC2.out);rintro e w' ⟨rfl,⟨nd,rfl⟩⟩))
        go_meet
        case rel=>exact ⟨_,(true),(by first|rfl|(simp;done)|(simp [*];done)),H',⟨by first|omega|exact Nat.le_refl _⟩,⟨by repeat (with_reducible first|exact HB.out|apply Qc|apply Qa|apply Qb)⟩⟩
       ·rw [if_neg c13] at H;have c13b0:decide (a4<0)=false:=aN c13;clear c13;have H':=aM H;clear H;go_wp2_with (first|((with_reducible refine Qj (f:=203) rfl ?_);refine goesL_ (some 15) rfl rfl Try.func203 (by kernel_rfl) rfl #[.slice A0 l0.length c0,.slice A1 l1.length c1] rfl (by (try simp only [aD,aE,aF]);first|done|rfl|(simp only [aG,aH];rfl)) ?_;(with_reducible refine (spec_l7Ways.calls k _ _ l0 _ _ l1 true _ ?side1 ?side2 ?side3 ?side4 A7.out).mono ?_);(case side1=>repeat first|exact (Kd.C_below HR0.out HB.out)|(with_reducible first|refine Kd.Qh ?_ _|refine Kd.Qi ?_ _|refine Kd.C_drew ?_));(case side2=>exact HC0.out);(case side3=>repeat first|exact (Kd.C_below HR1.out HB.out)|(with_reducible first|refine Kd.Qh ?_ _|refine Kd.Qi ?_ _|refine Kd.C_drew ?_));(case side4=>exact HC1.out);rintro e w' ⟨rfl,⟨nd,rfl⟩⟩;refine ⟨_,rfl,?_⟩)|(go_at_call 195;(with_reducible refine (spec_l7Order.calls k _ _ l2 (l0.length:Int) true _ ?side1 ?side2 A9.out).mono ?_);(case side1=>repeat first|exact (Kd.C_below HR2.out (by repeat (with_reducible first|exact HB.out|apply Qc|apply Qa|apply Qb)))|(with_reducible first|refine Kd.Qh ?_ _|refine Kd.Qi ?_ _|refine Kd.C_drew ?_));(case side2=>exact HC2.out);rintro e w' ⟨rfl,⟨nd,rfl⟩⟩))
        go_meet
        case rel=>exact ⟨_,(decide (a4 ≥ (l0.length:Int))),(by first|rfl|(simp;done)|(simp [*];done)),H',⟨by first|omega|exact Nat.le_refl _⟩,⟨by repeat (with_reducible first|exact HB.out|apply Qc|apply Qa|apply Qb)⟩⟩
    ·replace c10:=Bool.eq_false_iff.mpr c10;subst c10;have H1:(spec_SwapGain.j0 k l0 l1 l2 a3 a4 true)=some (r1,r2):=by rw [if_neg (show ¬ (false=true) by decide)] at H;exact H
     clear H;have H:=H1;clear H1;have H':=aM H;clear H;go_wp2_with (first|((with_reducible refine Qj (f:=203) rfl ?_);refine goesL_ (some 15) rfl rfl Try.func203 (by kernel_rfl) rfl #[.slice A0 l0.length c0,.slice A1 l1.length c1] rfl (by (try simp only [aD,aE,aF]);first|done|rfl|(simp only [aG,aH];rfl)) ?_;(with_reducible refine (spec_l7Ways.calls k _ _ l0 _ _ l1 true _ ?side1 ?side2 ?side3 ?side4 A7.out).mono ?_);(case side1=>repeat first|exact (Kd.C_below HR0.out HB.out)|(with_reducible first|refine Kd.Qh ?_ _|refine Kd.Qi ?_ _|refine Kd.C_drew ?_));(case side2=>exact HC0.out);(case side3=>repeat first|exact (Kd.C_below HR1.out HB.out)|(with_reducible first|refine Kd.Qh ?_ _|refine Kd.Qi ?_ _|refine Kd.C_drew ?_));(case side4=>exact HC1.out);rintro e w' ⟨rfl,⟨nd,rfl⟩⟩;refine ⟨_,rfl,?_⟩)|(go_at_call 195;(with_reducible refine (spec_l7Order.calls k _ _ l2 (l0.length:Int) false _ ?side1 ?side2 A9.out).mono ?_);(case side1=>repeat first|exact (Kd.C_below HR2.out (by repeat (with_reducible first|exact HB.out|apply Qc|apply Qa|apply Qb)))|(with_reducible first|refine Kd.Qh ?_ _|refine Kd.Qi ?_ _|refine Kd.C_drew ?_));(case side2=>exact HC2.out);rintro e w' ⟨rfl,⟨nd,rfl⟩⟩))
     go_meet
     case rel=>exact ⟨_,(true),(by first|rfl|(simp;done)|(simp [*];done)),H',⟨by first|omega|exact Nat.le_refl _⟩,⟨by repeat (with_reducible first|exact HB.out|apply Qc|apply Qa|apply Qb)⟩⟩
   ·replace c8:=Bool.eq_false_iff.mpr c8;subst c8;have H1:(spec_SwapGain.j0 k l0 l1 l2 a3 a4 true)=some (r1,r2):=by rw [if_neg (show ¬ (false=true) by decide)] at H;exact H
    clear H;have H:=H1;clear H1;have H':=aM H;clear H;go_wp2_with (first|((with_reducible refine Qj (f:=203) rfl ?_);refine goesL_ (some 15) rfl rfl Try.func203 (by kernel_rfl) rfl #[.slice A0 l0.length c0,.slice A1 l1.length c1] rfl (by (try simp only [aD,aE,aF]);first|done|rfl|(simp only [aG,aH];rfl)) ?_;(with_reducible refine (spec_l7Ways.calls k _ _ l0 _ _ l1 false _ ?side1 ?side2 ?side3 ?side4 A7.out).mono ?_);(case side1=>repeat first|exact (Kd.C_below HR0.out HB.out)|(with_reducible first|refine Kd.Qh ?_ _|refine Kd.Qi ?_ _|refine Kd.C_drew ?_));(case side2=>exact HC0.out);(case side3=>repeat first|exact (Kd.C_below HR1.out HB.out)|(with_reducible first|refine Kd.Qh ?_ _|refine Kd.Qi ?_ _|refine Kd.C_drew ?_));(case side4=>exact HC1.out);rintro e w' ⟨rfl,⟨nd,rfl⟩⟩;refine ⟨_,rfl,?_⟩))
    go_meet
    case rel=>exact ⟨_,(true),(by first|rfl|(simp;done)|(simp [*];done)),H',⟨by first|omega|exact Nat.le_refl _⟩,⟨by repeat (with_reducible first|exact HB.out|apply Qc|apply Qa|apply Qb)⟩⟩
  case rest=>
   clear HC6;(try clear c1);(try clear c2);(try clear p2);(try clear c7);(try clear c8);(try clear c10);(try clear c11);(try clear c11b0);(try clear c12);(try clear c12b0);(try clear c13);(try clear c13b0);obtain ⟨kq,x43_5,rfl,HA,HJ5,HB⟩:=hcut
   cases kq with
   |zero=>exact absurd HA.out (by simp [spec_SwapGain.j0])
   |succ kj5=>
    have H:=HA.out;clear HA;simp only [spec_SwapGain.j0] at H;by_cases c14:x43_5=true
    ·subst c14;have H1:(some (0,false))=some (r1,r2):=by rw [if_pos rfl] at H;exact H
     clear H;have H:=H1;clear H1;simp only [Option.some.injEq,Prod.mk.injEq] at H;obtain ⟨rfl,rfl⟩:=H;go_wp2
     go_ret2
     exact ⟨by first|rfl|(simp [errW_none,errW_some] <;> rfl)|(simp [*,errW_none,errW_some] <;> rfl),by repeat (with_reducible first|exact HB.out|apply Qc|apply Qa|apply Qb)⟩
    ·replace c14:=Bool.eq_false_iff.mpr c14;subst c14;have H1:((some (([]:List Int):List Int)).bind fun y103=>(if y103.length+l2.length<17592186044416 then ((some (y103 ++ l2:List Int)).bind fun y106=>(if 0≤a4 then (if a4<(l2.length:Int) then (if 0≤a3 then (if a3<(y106.length:Int) then (if a3<(l2.length:Int) then (if a4<(y106.length:Int) then ((spec_l7Cost.f kj5 l0 l1 l2).bind fun t113=>((spec_l7Cost.f kj5 l0 l1 ((y106.set (a3:Int).toNat (rd l2 a4)).set (a4:Int).toNat (rd l2 a3))).bind fun t114=>(some (wrap64 (t113 - t114),true)))) else (none)) else (none)) else (none)) else (none)) else (none)) else (none))) else (none)))=some (r1,r2):=by rw [if_neg (show ¬ (false=true) by decide)] at H;exact H
     clear H;have H:=H1;clear H1;obtain ⟨y103,hy103⟩:∃ y_:List Int,y_=(([]:List Int)):=⟨_,rfl⟩;replace H:(if y103.length+l2.length<17592186044416 then ((some (y103 ++ l2:List Int)).bind fun y106=>(if 0≤a4 then (if a4<(l2.length:Int) then (if 0≤a3 then (if a3<(y106.length:Int) then (if a3<(l2.length:Int) then (if a4<(y106.length:Int) then ((spec_l7Cost.f kj5 l0 l1 l2).bind fun t113=>((spec_l7Cost.f kj5 l0 l1 ((y106.set (a3:Int).toNat (rd l2 a4)).set (a4:Int).toNat (rd l2 a3))).bind fun t114=>(some (wrap64 (t113 - t114),true)))) else (none)) else (none)) else (none)) else (none)) else (none)) else (none))) else (none))=some (r1,r2):=by first|(rw [hy103];with_reducible exact H)|(have H2_:=(Option.bind_some _ _).symm.trans H;rw [hy103];with_reducible exact H2_)|(have H2_:=(Option.bind_some _ _).symm.trans H;with_reducible exact H2_)|with_reducible exact H|(rw [hy103];exact H)|exact H
     have Ny103:=aM hy103;clear hy103;by_cases c15:y103.length+l2.length<17592186044416
     ·rw [if_pos c15] at H;have LMc15:=aM c15;clear c15;obtain ⟨y106,hy106⟩:∃ y_:List Int,y_=(y103 ++ l2):=⟨_,rfl⟩;replace H:(if 0≤a4 then (if a4<(l2.length:Int) then (if 0≤a3 then (if a3<(y106.length:Int) then (if a3<(l2.length:Int) then (if a4<(y106.length:Int) then ((spec_l7Cost.f kj5 l0 l1 l2).bind fun t113=>((spec_l7Cost.f kj5 l0 l1 ((y106.set (a3:Int).toNat (rd l2 a4)).set (a4:Int).toNat (rd l2 a3))).bind fun t114=>(some (wrap64 (t113 - t114),true)))) else (none)) else (none)) else (none)) else (none)) else (none)) else (none))=some (r1,r2):=by first|(rw [hy106];with_reducible exact H)|(have H2_:=(Option.bind_some _ _).symm.trans H;rw [hy106];with_reducible exact H2_)|(have H2_:=(Option.bind_some _ _).symm.trans H;with_reducible exact H2_)|with_reducible exact H|(rw [hy106];exact H)|exact H
      have Ny106:=aM hy106;clear hy106;by_cases c16:0≤a4
      ·rw [if_pos c16] at H;have c16b0:decide (0≤a4)=true:=aL c16;clear c16;by_cases c17:a4<(l2.length:Int)
       ·rw [if_pos c17] at H;have c17b0:decide (a4<(l2.length:Int))=true:=aL c17;clear c17;by_cases c18:0≤a3
        ·rw [if_pos c18] at H;have c18b0:decide (0≤a3)=true:=aL c18;clear c18;by_cases c19:a3<(y106.length:Int)
         ·rw [if_pos c19] at H;have c19b0:decide (a3<(y106.length:Int))=true:=aL c19;clear c19;obtain ⟨y110,hy110⟩:∃ y_:List Int,y_=(y106.set (a3:Int).toNat (rd l2 a4)):=⟨_,rfl⟩;replace H:(if a3<(l2.length:Int) then (if a4<(y106.length:Int) then ((spec_l7Cost.f kj5 l0 l1 l2).bind fun t113=>((spec_l7Cost.f kj5 l0 l1 (y110.set (a4:Int).toNat (rd l2 a3))).bind fun t114=>(some (wrap64 (t113 - t114),true)))) else (none)) else (none))=some (r1,r2):=by first|(rw [hy110];with_reducible exact H)|(have H2_:=(Option.bind_some _ _).symm.trans H;rw [hy110];with_reducible exact H2_)|(have H2_:=(Option.bind_some _ _).symm.trans H;with_reducible exact H2_)|with_reducible exact H|(rw [hy110];exact H)|exact H
          have Ny110:=aM hy110;clear hy110;by_cases c21:a3<(l2.length:Int)
          ·rw [if_pos c21] at H;have c21b0:decide (a3<(l2.length:Int))=true:=aL c21;clear c21;by_cases c22:a4<(y106.length:Int)
           ·rw [if_pos c22] at H;have c22b0:decide (a4<(y106.length:Int))=true:=aL c22;clear c22;obtain ⟨y112,hy112⟩:∃ y_:List Int,y_=(y110.set (a4:Int).toNat (rd l2 a3)):=⟨_,rfl⟩;replace H:((spec_l7Cost.f kj5 l0 l1 l2).bind fun t113=>((spec_l7Cost.f kj5 l0 l1 y112).bind fun t114=>(some (wrap64 (t113 - t114),true))))=some (r1,r2):=by first|(rw [hy112];with_reducible exact H)|(have H2_:=(Option.bind_some _ _).symm.trans H;rw [hy112];with_reducible exact H2_)|(have H2_:=(Option.bind_some _ _).symm.trans H;with_reducible exact H2_)|with_reducible exact H|(rw [hy112];exact H)|exact H
            have Ny112:=aM hy112;clear hy112;replace H:=Option.bind_eq_some_iff.mp H;obtain ⟨t113,A240,H⟩:=H;replace H:((spec_l7Cost.f kj5 l0 l1 y112).bind fun t114=>(some (wrap64 (t113 - t114),true)))=some (r1,r2):=H;have A24:=aM A240;clear A240;replace H:=Option.bind_eq_some_iff.mp H;obtain ⟨t114,A250,H⟩:=H;replace H:(some (wrap64 (t113 - t114),true))=some (r1,r2):=H;have A25:=aM A250;clear A250;simp only [Option.some.injEq,Prod.mk.injEq] at H;obtain ⟨rfl,rfl⟩:=H;go_wp2_with (first|((with_reducible refine gate_dst (N:=44) rfl ?_);(try (refine gate_guard (by rfl) ?_;dsimp only));refine Kd.R_lit (Kd.int .i64) _ 3 ?hg (N:=44) ?hd (xs:=([]:List Int)) (inner:=[]) (ok:=fun _=>True) (okp:=fun _=>True) ?hr ?hp (fun _ hk=>hk) trivial (Below.refl _ _) (Nat.le_refl _) (by simp) ?_;(case hd=>rfl);(case hg=>rfl);(case hr=>first|(go_simp;done)|(go_simp;rfl));(case hp=>exact (Reps.none _ _));intro v104 w26 ho27 hb hg_ hnew_;clear hg_ hnew_;(first|rw [←Ny103.out] at ho27|(simp only [Int.reduceToNat] at ho27;rw [←Ny103.out] at ho27));have n0_:=aM (Kd.R_lower ho27 (Qn (by repeat (with_reducible first|exact HB.out|apply Qc|apply Qa|apply Qb))));have n1_:=aM (Qo (by repeat (with_reducible first|exact HB.out|apply Qc|apply Qa|apply Qb)) hb);clear HB;have HO105:=n0_;have HB:=n1_;clear n0_ n1_ hb ho27)|((with_reducible refine gate_builtin (b:= .append) (xs:=#[.tmp 44,.tmp 45]) rfl ?_);(try (refine gate_guard (by rfl) ?_;dsimp only));at_builtin;refine Kd.R_append_rows (Kd.int .i64) (w0:=w) w.heap.size rfl (.tmp 44) (.tmp 45) 34 3 (.int .i64 0) 8 rfl Try.underlying34 info3 rfl (by decide) (by omega) v104 y103 l2 _ _ _ (fun _=>True) (fun _=>False) rfl rfl ?aO ?aR (fun _ _ h=>h) (fun _ h=>h.elim) ?aF ?aB ?aS ?aL ?_;(case aR=>repeat first|exact (Kd.C_below HR2.out HB.out)|(with_reducible first|refine Kd.Qh ?_ _|refine Kd.Qi ?_ _|refine Kd.C_drew ?_));(case aB=>exact (by repeat (with_reducible first|exact HB.out|apply Qc|apply Qa|apply Qb)));(case aF=>exact (fun _ _=>trivial));(case aO=>exact (by (with_reducible repeat first|apply Kd.Qd|apply Kd.Qe|apply Kd.R_drew);exact HO105.out));(case aS=>exact (Qn (by repeat (with_reducible first|exact HB.out|apply Qc|apply Qa|apply Qb))));(case aL=>have:=LMc15.out;omega);intro v107 w28 ho hb hg hat;rw [←Ny106.out] at ho;have n0_:=aM (hb);have n1_:=aM (ho);clear HB HO105;have HB:=n0_;have HO108:=n1_;clear n0_ n1_ ho hb hg hat;have p109:0≤(a4:Int):=aK (by first|(with_reducible assumption)|assumption);have q109:a4<(l2.length:Int):=aK (by first|(with_reducible assumption)|assumption);obtain ⟨ad109,e109,hx109_0⟩:=Kd.at_int HR2.out a4 p109 q109;cases e109;replace hx109_0:=(HB.out.cell (aI w _ hx109_0)).trans hx109_0;replace p109:=eq_true p109;replace q109:=eq_true q109;have p20:0≤(a3:Int):=aK (by first|(with_reducible assumption)|assumption);have q20:(a3:Int)<((y106.length:Int):Int):=aK (by first|(with_reducible assumption)|assumption);obtain ⟨go20,co20,eo20,gb20,gl20,cl20,HG20⟩:=Kd.R_form HO108.out (by omega);(first|cases eo20|(injection eo20 with ea_ en_ ec_;(first|subst ea_|(injection ea_ with ea_;subst ea_));subst ec_;clear en_));have GB20:=aM gb20;have GG20:=aM HG20;clear gb20 gl20 HG20;obtain ⟨hx20_0,hf20_0⟩:=Kd.R_celln 0 HO108.out (a3:Int) p20 q20;replace p20:=eq_true p20;replace q20:=eq_true q20;obtain ⟨hy29_,hz29_⟩:=Kd.R_celln 0 HO108.out (a3:Int) (aK (by first|(with_reducible assumption)|assumption)) (aK (by first|(with_reducible assumption)|assumption));have HP29:=Kd.R_putg HO108.out (a3:Int) (rd l2 a4))|((with_reducible refine gate_store (t:=3) (p:=53) rfl ?_);refine store_event (t:=3) (p:=53) (v:=?vo_w30) (w1:=(w28.setCell ⟨go20,(a3:Int).toNat,none⟩ (.int .i64 (rd l2 a4)))) ?hg ?ho ?hn ?hr ?_;(case ho=>rfl);(case hg=>rfl);(case hn=>rfl);(case hr=>first|(go_simp;done)|(go_simp;rfl));intro w30 hw;have hg:w28.grownBy w30 (some go20):=(by rw [hw];exact HP29.2);have hp_:Kd.R (Kd.int .i64) 3 w30 w.heap.size (fun _=>True) (.slice (some ⟨go20,0,none⟩) y106.length co20) y110:=(by rw [hw,Ny110.out];exact HP29.1);clear HP29;have n0_:=aM (hp_);have n1_:=aM ((by rw [hw];exact Qf (HB.out) GB20.out:Below w.heap.size w w30));clear HO108 HB;have HO108:=n0_;have HB:=n1_;clear n0_ n1_ hg hw hp_;have p111:0≤(a3:Int):=aK (by first|(with_reducible assumption)|assumption);have q111:a3<(l2.length:Int):=aK (by first|(with_reducible assumption)|assumption);obtain ⟨ad111,e111,hx111_0⟩:=Kd.at_int HR2.out a3 p111 q111;obtain rfl:ad109=ad111:=(by injection e111);replace hx111_0:=(HB.out.cell (aI w _ hx111_0)).trans hx111_0;replace p111:=eq_true p111;replace q111:=eq_true q111;have p23:0≤(a4:Int):=aK (by first|(with_reducible assumption)|assumption);have q23:(a4:Int)<((y106.length:Int):Int):=aK (by first|(with_reducible assumption)|assumption);obtain ⟨hx23_0,hf23_0⟩:=Kd.R_celln 0 HO108.out (a4:Int) p23 q23;replace p23:=eq_true p23;replace q23:=eq_true q23;obtain ⟨hy31_,hz31_⟩:=Kd.R_celln 0 HO108.out (a4:Int) (aK (by first|(with_reducible assumption)|assumption)) (aK (by first|(with_reducible assumption)|assumption));have HP31:=Kd.R_putg HO108.out (a4:Int) (rd l2 a3))|((with_reducible refine gate_store (t:=3) (p:=60) rfl ?_);refine store_event (t:=3) (p:=60) (v:=?vo_w32) (w1:=(w30.setCell ⟨go20,(a4:Int).toNat,none⟩ (.int .i64 (rd l2 a3)))) ?hg ?ho ?hn ?hr ?_;(case ho=>rfl);(case hg=>rfl);(case hn=>rfl);(case hr=>first|(go_simp;done)|(go_simp;rfl));intro w32 hw;have hg:w30.grownBy w32 (some go20):=(by rw [hw];exact HP31.2);have hp_:Kd.R (Kd.int .i64) 3 w32 w.heap.size (fun _=>True) (.slice (some ⟨go20,0,none⟩) y106.length co20) y112:=(by rw [hw,Ny112.out];exact HP31.1);clear HP31;have n0_:=aM (hp_);have n1_:=aM ((by rw [hw];exact Qf (HB.out) GB20.out:Below w.heap.size w w32));clear HO108 HB;have HO108:=n0_;have HB:=n1_;clear n0_ n1_ hg hw hp_)|((with_reducible refine Qj (f:=204) rfl ?_);refine goesL_ (some 64) rfl rfl Try.func204 (by kernel_rfl) rfl #[.slice A0 l0.length c0,.slice A1 l1.length c1,.slice (some ad109) l2.length c2] rfl (by (try simp only [aD,aE,aF]);first|done|rfl|(simp only [aG,aH];rfl)) ?_;(with_reducible refine (spec_l7Cost.calls kj5 _ _ l0 _ _ l1 _ _ l2 t113 _ ?side1 ?side2 ?side3 ?side4 ?side5 ?side6 A24.out).mono ?_);(case side1=>repeat first|exact (Kd.C_below HR0.out HB.out)|(with_reducible first|refine Kd.Qh ?_ _|refine Kd.Qi ?_ _|refine Kd.C_drew ?_));(case side2=>exact HC0.out);(case side3=>repeat first|exact (Kd.C_below HR1.out HB.out)|(with_reducible first|refine Kd.Qh ?_ _|refine Kd.Qi ?_ _|refine Kd.C_drew ?_));(case side4=>exact HC1.out);(case side5=>repeat first|exact (Kd.C_below HR2.out HB.out)|(with_reducible first|refine Kd.Qh ?_ _|refine Kd.Qi ?_ _|refine Kd.C_drew ?_));(case side6=>exact HC2.out);rintro e w' ⟨rfl,⟨nd,rfl⟩⟩;refine ⟨_,rfl,?_⟩)|((with_reducible refine Qj (f:=204) rfl ?_);refine goesL_ (some 68) rfl rfl Try.func204 (by kernel_rfl) rfl #[.slice A0 l0.length c0,.slice A1 l1.length c1,.slice (some ⟨go20,0,none⟩) y112.length co20] rfl (by (try simp only [aD,aE,aF]);first|done|(rw [show y112.length=y106.length from (Kd.Qg HO108.out).1.symm] <;> rfl)|rfl|(simp only [aG,aH];rfl)) ?_;(with_reducible refine (spec_l7Cost.calls kj5 _ _ l0 _ _ l1 _ _ y112 t114 _ ?side1 ?side2 ?side3 ?side4 ?side5 ?side6 A25.out).mono ?_);(case side1=>repeat first|exact (Kd.C_below HR0.out (by repeat (with_reducible first|exact HB.out|apply Qc|apply Qa|apply Qb)))|(with_reducible first|refine Kd.Qh ?_ _|refine Kd.Qi ?_ _|refine Kd.C_drew ?_));(case side2=>exact HC0.out);(case side3=>repeat first|exact (Kd.C_below HR1.out (by repeat (with_reducible first|exact HB.out|apply Qc|apply Qa|apply Qb)))|(with_reducible first|refine Kd.Qh ?_ _|refine Kd.Qi ?_ _|refine Kd.C_drew ?_));(case side4=>exact HC1.out);(case side5=>repeat first|exact (Kd.Qg HO108.out).2.2|(with_reducible first|refine Kd.Qh ?_ _|refine Kd.Qi ?_ _|refine Kd.C_drew ?_));(case side6=>rw [show y112.length=y106.length from (Kd.Qg HO108.out).1.symm];exact (Kd.Qg HO108.out).2.1);rintro e w' ⟨rfl,⟨nd,rfl⟩⟩;refine ⟨_,rfl,?_⟩))
            go_ret2
            exact ⟨by first|rfl|(simp [errW_none,errW_some] <;> rfl)|(simp [*,errW_none,errW_some] <;> rfl),by repeat (with_reducible first|exact HB.out|apply Qc|apply Qa|apply Qb)⟩
           ·rw [if_neg c22] at H;exact absurd H (by simp)
          ·rw [if_neg c21] at H;exact absurd H (by simp)
         ·rw [if_neg c19] at H;exact absurd H (by simp)
        ·rw [if_neg c18] at H;exact absurd H (by simp)
       ·rw [if_neg c17] at H;exact absurd H (by simp)
      ·rw [if_neg c16] at H;exact absurd H (by simp)
     ·rw [if_neg c15] at H;exact absurd H (by simp)

mutual
def laws_FnRanks.j0:Nat→List Int→List Int→List Int→Int→Bool→List Int→Bool→Bool→Option (Bool)
  |0,_,_,_,_,_,_,_,_=>none
  |k+1,x1,x5,x6,x8,x9,x12,x13,x93=>if x93=true then (some false) else (if x13=true then ((impl_OrderCost.f k x5 x6 x12).bind fun bt123=>((impl_IsOrder.f x12 (x5.length:Int)).bind fun bt125=>(if bt123.2=true then (if bt125.2=true then (if bt125.1=true then (if x9=true then (laws_FnRanks.j1 k x1 x5 x6 x12 (decide (bt123.1 > x8))) else (laws_FnRanks.j1 k x1 x5 x6 x12 false)) else (laws_FnRanks.j1 k x1 x5 x6 x12 true)) else (laws_FnRanks.j1 k x1 x5 x6 x12 true)) else (laws_FnRanks.j1 k x1 x5 x6 x12 true)))) else (laws_FnRanks.j2 k x1))
def laws_FnRanks.j2:Nat→List Int→Option (Bool)
  |0,_=>none
  |k+1,x1=>(spec_DrawPairCost.f k x1).bind fun bt131=>((impl_PairCost.f k bt131.1 bt131.2).bind fun bt137=>((spec_PairCost.f k bt131.1 bt131.2).bind fun bt139=>((spec_DrawSwapGain.f k x1).bind fun bt141=>((impl_SwapGain.f k bt141.1 bt141.2.1 bt141.2.2.1 bt141.2.2.2.1 bt141.2.2.2.2).bind fun bt152=>((spec_SwapGain.f k bt141.1 bt141.2.1 bt141.2.2.1 bt141.2.2.2.1 bt141.2.2.2.2).bind fun bt154=>(if (bt137.2 != bt139.2)=true then (laws_FnRanks.j3 k bt141.1 bt141.2.1 bt141.2.2.1 bt141.2.2.2.1 bt141.2.2.2.2 bt152.1 bt152.2 true) else (if bt137.1=bt139.1 then (if (bt152.2 != bt154.2)=true then (laws_FnRanks.j3 k bt141.1 bt141.2.1 bt141.2.2.1 bt141.2.2.2.1 bt141.2.2.2.2 bt152.1 bt152.2 true) else (laws_FnRanks.j3 k bt141.1 bt141.2.1 bt141.2.2.1 bt141.2.2.2.1 bt141.2.2.2.2 bt152.1 bt152.2 (bt152.1 != bt154.1))) else (laws_FnRanks.j3 k bt141.1 bt141.2.1 bt141.2.2.1 bt141.2.2.2.1 bt141.2.2.2.2 bt152.1 bt152.2 true))))))))
def laws_FnRanks.j3:Nat→List Int→List Int→List Int→Int→Int→Int→Bool→Bool→Option (Bool)
  |0,_,_,_,_,_,_,_,_=>none
  |k+1,x28,x29,x30,x31,x32,x33,x34,x214=>if x214=true then (some false) else (if x34=true then (if 0≤x31 then (if x31<(x30.length:Int) then (if 0≤(rd x30 x31) then (if (rd x30 x31)<(x28.length:Int) then (if 0≤x32 then (if x32<(x30.length:Int) then (if 0≤(rd x30 x32) then (if (rd x30 x32)<(x28.length:Int) then (if x31<(x29.length:Int) then (if x32<(x29.length:Int) then (some (x33 == (wrap64 ((wrap64 ((rd x28 (rd x30 x31)) - (rd x28 (rd x30 x32)))) * (wrap64 ((rd x29 x31) - (rd x29 x32))))))) else (none)) else (none)) else (none)) else (none)) else (none)) else (none)) else (none)) else (none)) else (none)) else (none)) else (some true))
def laws_FnRanks.j1:Nat→List Int→List Int→List Int→List Int→Bool→Option (Bool)
  |0,_,_,_,_,_=>none
  |k+1,x1,x5,x6,x12,x126=>if x126=true then (some false) else (if (x5.length:Int) > 0 then ((laws_numberOf.f k x1).bind fun t127=>(if (x5.length:Int)=0 then (none) else ((laws_numberOf.f k x1).bind fun t128=>((impl_SwapGain.f k x5 x6 x12 (Int.tmod t127 (x5.length:Int)) (Int.tmod (wrap64 (Int.tdiv t128 11)) (x5.length:Int))).bind fun bt129=>(if bt129.2=true then (if bt129.1 > 0 then (some false) else (laws_FnRanks.j2 k x1)) else (some false)))))) else (laws_FnRanks.j2 k x1))
end
def laws_FnRanks.f (k:Nat) (l0:List Int) (l1:List Int):Option (Bool):=if (wrap64 ((l0.length:Int)+(l1.length:Int))) > 1048576 then (some true) else ((spec_DrawOrderCost.f k l0).bind fun bt101=>((impl_OrderCost.f k bt101.1 bt101.2.1 bt101.2.2).bind fun bt110=>((spec_OrderCost.f k bt101.1 bt101.2.1 bt101.2.2).bind fun bt112=>((impl_OrderFor.f k bt101.1 bt101.2.1).bind fun bt114=>((spec_OrderFor.f k bt101.1 bt101.2.1).bind fun bt118=>(if (bt110.2 != bt112.2)=true then (laws_FnRanks.j0 k l1 bt101.1 bt101.2.1 bt110.1 bt110.2 bt114.1 bt114.2 true) else (if bt110.1=bt112.1 then (if (bt114.2 != bt118.2)=true then (laws_FnRanks.j0 k l1 bt101.1 bt101.2.1 bt110.1 bt110.2 bt114.1 bt114.2 true) else ((laws_sameInts.f k bt114.1 bt118.1).bind fun t122=>(laws_FnRanks.j0 k l1 bt101.1 bt101.2.1 bt110.1 bt110.2 bt114.1 bt114.2 (!t122)))) else (laws_FnRanks.j0 k l1 bt101.1 bt101.2.1 bt110.1 bt110.2 bt114.1 bt114.2 true))))))))
def laws_FnRanks.T16:Bool×List (List Nat×List Nat):=(true,[([],[]),([],[]),([],[]),([],[]),([3],[3]),([],[]),([5],[5]),([4,6],[4,6]),([],[]),([8,4],[8]),([9],[9]),([],[]),([11],[11]),([10,12],[10,12]),([0,1,2,7,13,9],[0,1,2,7,13]),([14],[14]),([15],[15]),([15],[15]),([16,14,0,1,2,3,4,5,6,7,8,9,10,11,12,13,14,15,16],[16]),([17,18,0,1,2,3,4,5,6,7,8,9,10,11,12,13,14,15,16,17,18],[17])])
def laws_FnRanks.B16:List Nat:=[0,0,0,0,8,0,32,120,0,280,792,0,2048,7960,16383,32767,65535,65535,131071,524287]
theorem laws_FnRanks.tab16:rtab .any (opsOf Try.f8 16)=laws_FnRanks.T16:=by kernel_rfl
theorem laws_FnRanks.bits16:waitsOk laws_FnRanks.T16.2 laws_FnRanks.B16=true:=by kernel_rfl
def laws_FnRanks.T28:Bool×List (List Nat×List Nat):=(true,[([],[]),([],[]),([],[]),([],[]),([2,3],[2,3]),([4],[4]),([1,5],[1,5]),([6],[6]),([],[]),([],[]),([],[]),([9,10],[9,10]),([11],[11]),([8,12],[8,12]),([13],[13]),([7,14],[7,14]),([],[]),([],[]),([16,17],[16,17]),([18],[18]),([],[]),([],[]),([20,21],[20,21]),([22],[22]),([19,23],[19,23]),([15,24],[15,24]),([0,25],[0,25]),([26,0,1,2,3,4,5,6,7,8,9,10,11,12,13,14,15,16,17,18,19,20,21,22,23,24,25,26],[26])])
def laws_FnRanks.B28:List Nat:=[0,0,0,0,12,28,62,126,0,0,0,1536,3584,7936,16128,32766,0,0,196608,458752,0,0,3145728,7340032,16711680,33554430,67108863,134217727]
theorem laws_FnRanks.tab28:rtab .any (opsOf Try.f8 28)=laws_FnRanks.T28:=by kernel_rfl
theorem laws_FnRanks.bits28:waitsOk laws_FnRanks.T28.2 laws_FnRanks.B28=true:=by kernel_rfl
set_option maxHeartbeats 8000000 in
set_option maxRecDepth 100000 in
theorem laws_FnRanks.calls (k:Nat) (A0:Option Addr) (c0:Nat) (l0:List Int) (A1:Option Addr) (c1:Nat) (l1:List Int) (r:Bool) (w:World) (hr0:Kd.C (Kd.int .u8) w A0 l0.length l0) (hc0:l0.length≤c0) (hr1:Kd.C (Kd.int .u8) w A1 l1.length l1) (hc1:l1.length≤c1) (h:laws_FnRanks.f k l0 l1=some r) :
    Calls Try.prog 8 #[.slice A0 l0.length c0,.slice A1 l1.length c1] w fun e w'=>e= .returned (.bool r)∧Below w.heap.size w w':=by
  have HR0:=aM hr0;have HC0:=aM hc0;clear hr0 hc0;have HR1:=aM hr1;have HC1:=aM hc1;clear hr1 hc1;have HB:=aM (Below.refl w.heap.size w);have H:(if (wrap64 ((l0.length:Int)+(l1.length:Int))) > 1048576 then (some true) else ((spec_DrawOrderCost.f k l0).bind fun bt101=>((impl_OrderCost.f k bt101.1 bt101.2.1 bt101.2.2).bind fun bt110=>((spec_OrderCost.f k bt101.1 bt101.2.1 bt101.2.2).bind fun bt112=>((impl_OrderFor.f k bt101.1 bt101.2.1).bind fun bt114=>((spec_OrderFor.f k bt101.1 bt101.2.1).bind fun bt118=>(if (bt110.2 != bt112.2)=true then (laws_FnRanks.j0 k l1 bt101.1 bt101.2.1 bt110.1 bt110.2 bt114.1 bt114.2 true) else (if bt110.1=bt112.1 then (if (bt114.2 != bt118.2)=true then (laws_FnRanks.j0 k l1 bt101.1 bt101.2.1 bt110.1 bt110.2 bt114.1 bt114.2 true) else ((laws_sameInts.f k bt114.1 bt118.1).bind fun t122=>(laws_FnRanks.j0 k l1 bt101.1 bt101.2.1 bt110.1 bt110.2 bt114.1 bt114.2 (!t122)))) else (laws_FnRanks.j0 k l1 bt101.1 bt101.2.1 bt110.1 bt110.2 bt114.1 bt114.2 true)))))))))=some r:=h;clear h;by_cases c3:(wrap64 ((l0.length:Int)+(l1.length:Int))) > 1048576
  ·rw [if_pos c3] at H;have c3b0:decide (1048576<(wrap64 ((l0.length:Int)+(l1.length:Int))))=true:=aL c3;clear c3
   as_aux_lemma=>
    obtain rfl:=Option.some.inj H;go_enter Try.func8,Try.ntmps8;go_wp2
    go_ret
    exact ⟨by first|rfl|(simp [errW_none,errW_some] <;> rfl)|(simp [*,errW_none,errW_some] <;> rfl),by repeat (with_reducible first|exact HB.out|apply Qc|apply Qa|apply Qb)⟩
  ·rw [if_neg c3] at H;have c3b0:decide (1048576<(wrap64 ((l0.length:Int)+(l1.length:Int))))=false:=aN c3;clear c3;replace H:=Option.bind_eq_some_iff.mp H;obtain ⟨⟨t101,t102,t103⟩,A40,H⟩:=H;replace H:((impl_OrderCost.f k t101 t102 t103).bind fun bt110=>((spec_OrderCost.f k t101 t102 t103).bind fun bt112=>((impl_OrderFor.f k t101 t102).bind fun bt114=>((spec_OrderFor.f k t101 t102).bind fun bt118=>(if (bt110.2 != bt112.2)=true then (laws_FnRanks.j0 k l1 t101 t102 bt110.1 bt110.2 bt114.1 bt114.2 true) else (if bt110.1=bt112.1 then (if (bt114.2 != bt118.2)=true then (laws_FnRanks.j0 k l1 t101 t102 bt110.1 bt110.2 bt114.1 bt114.2 true) else ((laws_sameInts.f k bt114.1 bt118.1).bind fun t122=>(laws_FnRanks.j0 k l1 t101 t102 bt110.1 bt110.2 bt114.1 bt114.2 (!t122)))) else (laws_FnRanks.j0 k l1 t101 t102 bt110.1 bt110.2 bt114.1 bt114.2 true)))))))=some r:=H;have A4:=aM A40;clear A40;replace H:=Option.bind_eq_some_iff.mp H;obtain ⟨⟨t110,t111⟩,A50,H⟩:=H;replace H:((spec_OrderCost.f k t101 t102 t103).bind fun bt112=>((impl_OrderFor.f k t101 t102).bind fun bt114=>((spec_OrderFor.f k t101 t102).bind fun bt118=>(if (t111 != bt112.2)=true then (laws_FnRanks.j0 k l1 t101 t102 t110 t111 bt114.1 bt114.2 true) else (if t110=bt112.1 then (if (bt114.2 != bt118.2)=true then (laws_FnRanks.j0 k l1 t101 t102 t110 t111 bt114.1 bt114.2 true) else ((laws_sameInts.f k bt114.1 bt118.1).bind fun t122=>(laws_FnRanks.j0 k l1 t101 t102 t110 t111 bt114.1 bt114.2 (!t122)))) else (laws_FnRanks.j0 k l1 t101 t102 t110 t111 bt114.1 bt114.2 true))))))=some r:=H;have A5:=aM A50;clear A50;replace H:=Option.bind_eq_some_iff.mp H;obtain ⟨⟨t112,t113⟩,A60,H⟩:=H;replace H:((impl_OrderFor.f k t101 t102).bind fun bt114=>((spec_OrderFor.f k t101 t102).bind fun bt118=>(if (t111 != t113)=true then (laws_FnRanks.j0 k l1 t101 t102 t110 t111 bt114.1 bt114.2 true) else (if t110=t112 then (if (bt114.2 != bt118.2)=true then (laws_FnRanks.j0 k l1 t101 t102 t110 t111 bt114.1 bt114.2 true) else ((laws_sameInts.f k bt114.1 bt118.1).bind fun t122=>(laws_FnRanks.j0 k l1 t101 t102 t110 t111 bt114.1 bt114.2 (!t122)))) else (laws_FnRanks.j0 k l1 t101 t102 t110 t111 bt114.1 bt114.2 true)))))=some r:=H;have A6:=aM A60;clear A60;replace H:=Option.bind_eq_some_iff.mp H;obtain ⟨⟨t114,t115⟩,A70,H⟩:=H;replace H:((spec_OrderFor.f k t101 t102).bind fun bt118=>(if (t111 != t113)=true then (laws_FnRanks.j0 k l1 t101 t102 t110 t111 t114 t115 true) else (if t110=t112 then (if (t115 != bt118.2)=true then (laws_FnRanks.j0 k l1 t101 t102 t110 t111 t114 t115 true) else ((laws_sameInts.f k t114 bt118.1).bind fun t122=>(laws_FnRanks.j0 k l1 t101 t102 t110 t111 t114 t115 (!t122)))) else (laws_FnRanks.j0 k l1 t101 t102 t110 t111 t114 t115 true))))=some r:=H;have A7:=aM A70;clear A70;replace H:=Option.bind_eq_some_iff.mp H;obtain ⟨⟨t118,t119⟩,A80,H⟩:=H;replace H:(if (t111 != t113)=true then (laws_FnRanks.j0 k l1 t101 t102 t110 t111 t114 t115 true) else (if t110=t112 then (if (t115 != t119)=true then (laws_FnRanks.j0 k l1 t101 t102 t110 t111 t114 t115 true) else ((laws_sameInts.f k t114 t118).bind fun t122=>(laws_FnRanks.j0 k l1 t101 t102 t110 t111 t114 t115 (!t122)))) else (laws_FnRanks.j0 k l1 t101 t102 t110 t111 t114 t115 true)))=some r:=H;have A8:=aM A80;clear A80;have HC9:=aM H;clear H;go_enter Try.func8,Try.ntmps8
   go_upto_region 8 with (first|((with_reducible refine Qj (f:=65) rfl ?_);refine goesL_ (some 45) rfl rfl Try.func65 (by kernel_rfl) rfl #[.slice A0 l0.length c0] rfl (by (try simp only [aD,aE,aF]);first|done|rfl|(simp only [aG,aH];rfl)) ?_;(with_reducible refine (spec_DrawOrderCost.calls k _ _ l0 t101 t102 t103 _ ?side1 ?side2 A4.out).mono ?_);(case side1=>repeat first|exact HR0.out|(with_reducible first|refine Kd.Qh ?_ _|refine Kd.Qi ?_ _|refine Kd.C_drew ?_));(case side2=>exact HC0.out);rintro e w10 ⟨v104,v106,v108,rfl,ho0,ho1,ho2,hb⟩;refine ⟨_,rfl,?_⟩;have n0_:=aM (Kd.R_lower ho0 (Qn (by repeat (with_reducible first|exact HB.out|apply Qc|apply Qa|apply Qb))));have n1_:=aM (Kd.R_lower ho1 (Qn (by repeat (with_reducible first|exact HB.out|apply Qc|apply Qa|apply Qb))));have n2_:=aM (Kd.R_lower ho2 (Qn (by repeat (with_reducible first|exact HB.out|apply Qc|apply Qa|apply Qb))));have n3_:=aM (Qo (by repeat (with_reducible first|exact HB.out|apply Qc|apply Qa|apply Qb)) hb);clear HB;have HO105:=n0_;have HO107:=n1_;have HO109:=n2_;have HB:=n3_;clear n0_ n1_ n2_ n3_;(try clear hb);(try clear hb2);(try clear hk);(try clear hi);(try clear ho0);(try clear ho1);(try clear ho2);obtain ⟨Ao11,co11,eo11⟩:=Kd.R_slice HO105.out;subst eo11;obtain ⟨Ao12,co12,eo12⟩:=Kd.R_slice HO107.out;subst eo12;obtain ⟨Ao13,co13,eo13⟩:=Kd.R_slice HO109.out;subst eo13)|((with_reducible refine Qj (f:=66) rfl ?_);refine goesL_ (some 53) rfl rfl Try.func66 (by kernel_rfl) rfl #[.slice Ao11 t101.length co11,.slice Ao12 t102.length co12,.slice Ao13 t103.length co13] rfl (by (try simp only [aD,aE,aF]);first|done|rfl|(simp only [aG,aH];rfl)) ?_;(with_reducible refine (impl_OrderCost.calls k _ _ t101 _ _ t102 _ _ t103 t110 t111 _ ?side1 ?side2 ?side3 ?side4 ?side5 ?side6 A5.out).mono ?_);(case side1=>repeat first|exact (Kd.Qg HO105.out).2.2|(with_reducible first|refine Kd.Qh ?_ _|refine Kd.Qi ?_ _|refine Kd.C_drew ?_));(case side2=>exact (Kd.Qg HO105.out).2.1);(case side3=>repeat first|exact (Kd.Qg HO107.out).2.2|(with_reducible first|refine Kd.Qh ?_ _|refine Kd.Qi ?_ _|refine Kd.C_drew ?_));(case side4=>exact (Kd.Qg HO107.out).2.1);(case side5=>repeat first|exact (Kd.Qg HO109.out).2.2|(with_reducible first|refine Kd.Qh ?_ _|refine Kd.Qi ?_ _|refine Kd.C_drew ?_));(case side6=>exact (Kd.Qg HO109.out).2.1);rintro e w14 ⟨rfl,hb⟩;refine ⟨_,rfl,?_⟩;have n0_:=aM (Kd.R_below (by (with_reducible repeat first|apply Kd.Qd|apply Kd.Qe|apply Kd.R_drew);exact HO105.out) hb);have n1_:=aM (Kd.R_below (by (with_reducible repeat first|apply Kd.Qd|apply Kd.Qe|apply Kd.R_drew);exact HO107.out) hb);have n2_:=aM (Kd.R_below (by (with_reducible repeat first|apply Kd.Qd|apply Kd.Qe|apply Kd.R_drew);exact HO109.out) hb);have n3_:=aM (Qo (by repeat (with_reducible first|exact HB.out|apply Qc|apply Qa|apply Qb)) hb);clear HO105 HO107 HO109 HB;have HO105:=n0_;have HO107:=n1_;have HO109:=n2_;have HB:=n3_;clear n0_ n1_ n2_ n3_ hb)|((with_reducible refine Qj (f:=67) rfl ?_);refine goesL_ (some 60) rfl rfl Try.func67 (by kernel_rfl) rfl #[.slice Ao11 t101.length co11,.slice Ao12 t102.length co12,.slice Ao13 t103.length co13] rfl (by (try simp only [aD,aE,aF]);first|done|rfl|(simp only [aG,aH];rfl)) ?_;(with_reducible refine (spec_OrderCost.calls k _ _ t101 _ _ t102 _ _ t103 t112 t113 _ ?side1 ?side2 ?side3 ?side4 ?side5 ?side6 A6.out).mono ?_);(case side1=>repeat first|exact (Kd.Qg HO105.out).2.2|(with_reducible first|refine Kd.Qh ?_ _|refine Kd.Qi ?_ _|refine Kd.C_drew ?_));(case side2=>exact (Kd.Qg HO105.out).2.1);(case side3=>repeat first|exact (Kd.Qg HO107.out).2.2|(with_reducible first|refine Kd.Qh ?_ _|refine Kd.Qi ?_ _|refine Kd.C_drew ?_));(case side4=>exact (Kd.Qg HO107.out).2.1);(case side5=>repeat first|exact (Kd.Qg HO109.out).2.2|(with_reducible first|refine Kd.Qh ?_ _|refine Kd.Qi ?_ _|refine Kd.C_drew ?_));(case side6=>exact (Kd.Qg HO109.out).2.1);rintro e w' ⟨rfl,⟨nd,rfl⟩⟩;refine ⟨_,rfl,?_⟩)|((with_reducible refine Qj (f:=68) rfl ?_);refine goesL_ (some 66) rfl rfl Try.func68 (by kernel_rfl) rfl #[.slice Ao11 t101.length co11,.slice Ao12 t102.length co12] rfl (by (try simp only [aD,aE,aF]);first|done|rfl|(simp only [aG,aH];rfl)) ?_;(with_reducible refine (impl_OrderFor.calls k _ _ t101 _ _ t102 t114 t115 _ ?side1 ?side2 ?side3 ?side4 A7.out).mono ?_);(case side1=>repeat first|exact (Kd.Qg HO105.out).2.2|(with_reducible first|refine Kd.Qh ?_ _|refine Kd.Qi ?_ _|refine Kd.C_drew ?_));(case side2=>exact (Kd.Qg HO105.out).2.1);(case side3=>repeat first|exact (Kd.Qg HO107.out).2.2|(with_reducible first|refine Kd.Qh ?_ _|refine Kd.Qi ?_ _|refine Kd.C_drew ?_));(case side4=>exact (Kd.Qg HO107.out).2.1);rintro e w15 ⟨v116,rfl,ho0,hb⟩;refine ⟨_,rfl,?_⟩;have n0_:=aM (Kd.R_elder' (by (with_reducible repeat first|apply Kd.Qd|apply Kd.Qe|apply Kd.R_drew);exact HO105.out) (Kd.R_base ho0) hb);have n1_:=aM (Kd.R_elder' (by (with_reducible repeat first|apply Kd.Qd|apply Kd.Qe|apply Kd.R_drew);exact HO107.out) (Kd.R_base ho0) hb);have n2_:=aM (Kd.R_elder' (by (with_reducible repeat first|apply Kd.Qd|apply Kd.Qe|apply Kd.R_drew);exact HO109.out) (Kd.R_base ho0) hb);have n3_:=aM (Kd.R_lower (Kd.R_new' (Kd.R_new' (Kd.R_new' ho0 (Kd.R_lt (by (with_reducible repeat first|apply Kd.Qd|apply Kd.Qe|apply Kd.R_drew);exact HO105.out))) (Kd.R_lt (by (with_reducible repeat first|apply Kd.Qd|apply Kd.Qe|apply Kd.R_drew);exact HO107.out))) (Kd.R_lt (by (with_reducible repeat first|apply Kd.Qd|apply Kd.Qe|apply Kd.R_drew);exact HO109.out))) (Qn (by repeat (with_reducible first|exact HB.out|apply Qc|apply Qa|apply Qb))));have n4_:=aM (Qo (by repeat (with_reducible first|exact HB.out|apply Qc|apply Qa|apply Qb)) hb);clear HO105 HO107 HO109 HB;have HO105:=n0_;have HO107:=n1_;have HO109:=n2_;have HO117:=n3_;have HB:=n4_;clear n0_ n1_ n2_ n3_ n4_ hb ho0)|((with_reducible refine Qj (f:=69) rfl ?_);refine goesL_ (some 72) rfl rfl Try.func69 (by kernel_rfl) rfl #[.slice Ao11 t101.length co11,.slice Ao12 t102.length co12] rfl (by (try simp only [aD,aE,aF]);first|done|rfl|(simp only [aG,aH];rfl)) ?_;(with_reducible refine (spec_OrderFor.calls k _ _ t101 _ _ t102 t118 t119 _ ?side1 ?side2 ?side3 ?side4 A8.out).mono ?_);(case side1=>repeat first|exact (Kd.Qg HO105.out).2.2|(with_reducible first|refine Kd.Qh ?_ _|refine Kd.Qi ?_ _|refine Kd.C_drew ?_));(case side2=>exact (Kd.Qg HO105.out).2.1);(case side3=>repeat first|exact (Kd.Qg HO107.out).2.2|(with_reducible first|refine Kd.Qh ?_ _|refine Kd.Qi ?_ _|refine Kd.C_drew ?_));(case side4=>exact (Kd.Qg HO107.out).2.1);rintro e w16 ⟨v120,rfl,ho0,hb⟩;refine ⟨_,rfl,?_⟩;have n0_:=aM (Kd.R_elder' (by (with_reducible repeat first|apply Kd.Qd|apply Kd.Qe|apply Kd.R_drew);exact HO105.out) (Kd.R_base ho0) hb);have n1_:=aM (Kd.R_elder' (by (with_reducible repeat first|apply Kd.Qd|apply Kd.Qe|apply Kd.R_drew);exact HO107.out) (Kd.R_base ho0) hb);have n2_:=aM (Kd.R_elder' (by (with_reducible repeat first|apply Kd.Qd|apply Kd.Qe|apply Kd.R_drew);exact HO109.out) (Kd.R_base ho0) hb);have n3_:=aM (Kd.R_elder' (by (with_reducible repeat first|apply Kd.Qd|apply Kd.Qe|apply Kd.R_drew);exact HO117.out) (Kd.R_base ho0) hb);have n4_:=aM (Kd.R_lower (Kd.R_new' (Kd.R_new' (Kd.R_new' (Kd.R_new' ho0 (Kd.R_lt (by (with_reducible repeat first|apply Kd.Qd|apply Kd.Qe|apply Kd.R_drew);exact HO105.out))) (Kd.R_lt (by (with_reducible repeat first|apply Kd.Qd|apply Kd.Qe|apply Kd.R_drew);exact HO107.out))) (Kd.R_lt (by (with_reducible repeat first|apply Kd.Qd|apply Kd.Qe|apply Kd.R_drew);exact HO109.out))) (Kd.R_lt (by (with_reducible repeat first|apply Kd.Qd|apply Kd.Qe|apply Kd.R_drew);exact HO117.out))) (Qn (by repeat (with_reducible first|exact HB.out|apply Qc|apply Qa|apply Qb))));have n5_:=aM (Qo (by repeat (with_reducible first|exact HB.out|apply Qc|apply Qa|apply Qb)) hb);clear HO105 HO107 HO109 HO117 HB;have HO105:=n0_;have HO107:=n1_;have HO109:=n2_;have HO117:=n3_;have HO121:=n4_;have HB:=n5_;clear n0_ n1_ n2_ n3_ n4_ n5_ hb ho0))
   (try simp only [Act.put,aA,aB,aC])
   go_cut [93] (fun v93 wc=>∃ (kq:Nat) (x93_8:Bool),v93= .bool x93_8∧Aside0 (laws_FnRanks.j0 kq l1 t101 t102 t110 t111 t114 t115 x93_8=some r)∧Aside0 (kq≤k)∧Aside0 (Kd.R (Kd.int .i64) 3 wc w.heap.size (fun k_=>some k_≠((.slice Ao12 t102.length co12):Value).ownBlock∧some k_≠(v116:Value).ownBlock) (.slice Ao11 t101.length co11) t101)∧Aside0 (Kd.R (Kd.int .i64) 3 wc w.heap.size (fun k_=>some k_≠((.slice Ao11 t101.length co11):Value).ownBlock∧some k_≠(v116:Value).ownBlock) (.slice Ao12 t102.length co12) t102)∧Aside0 (Kd.R (Kd.int .i64) 3 wc w.heap.size (fun k_=>some k_≠((.slice Ao11 t101.length co11):Value).ownBlock∧some k_≠((.slice Ao12 t102.length co12):Value).ownBlock) v116 t114)∧Aside0 (Below w.heap.size w wc))
   case first=>
    have H:=HC9.out;clear HC9;by_cases c17:(t111 != t113)=true
    ·rw [if_pos c17] at H;have c17b0:(t111 != t113)=true:=c17;(try (have c17b1:decide (t111=t113)=false:=by simpa using c17));(try (have c17b2:(t111 == t113)=false:=by simpa using c17));(try (have c17b3: ¬ (t111=t113):=by simpa using c17));clear c17
     (first|rw [c17b0]|(simp only [i64_w,i32_w];rw [c17b0])|skip)
     as_aux_lemma=>
      have H':=aM H;clear H;go_wp2
      go_meet
      case rel=>exact ⟨_,(true),(by first|rfl|(simp;done)|(simp [*];done)),H',⟨by first|omega|exact Nat.le_refl _⟩,⟨by (with_reducible repeat first|apply Kd.Qd|apply Kd.Qe|apply Kd.R_drew);exact Kd.R_mono HO105.out (fun _ hk=>⟨hk.1.1.1,hk.1.2⟩)⟩,⟨by (with_reducible repeat first|apply Kd.Qd|apply Kd.Qe|apply Kd.R_drew);exact Kd.R_mono HO107.out (fun _ hk=>⟨hk.1.1.1,hk.1.2⟩)⟩,⟨by (with_reducible repeat first|apply Kd.Qd|apply Kd.Qe|apply Kd.R_drew);exact Kd.R_mono HO117.out (fun _ hk=>⟨hk.1.1.1.2,hk.1.1.2⟩)⟩,⟨by repeat (with_reducible first|exact HB.out|apply Qc|apply Qa|apply Qb)⟩⟩
    ·rw [if_neg c17] at H;have c17b0:(t111 != t113)=false:=by simpa using c17
     (try (have c17b1:decide (t111=t113)=true:=by simpa using c17));(try (have c17b2:(t111 == t113)=true:=by simpa using c17));clear c17
     (first|rw [c17b0]|(simp only [i64_w,i32_w];rw [c17b0])|skip)
     by_cases c18:t110=t112
     ·rw [if_pos c18] at H;have c18b0:(t110 == t112)=true:=beq_iff_eq.mpr c18;have c18b1:(t110 != t112)=false:=bne_eq_false_iff_eq.mpr c18;clear c18;by_cases c19:(t115 != t119)=true
      ·rw [if_pos c19] at H;have c19b0:(t115 != t119)=true:=c19;(try (have c19b1:decide (t115=t119)=false:=by simpa using c19));(try (have c19b2:(t115 == t119)=false:=by simpa using c19));(try (have c19b3: ¬ (t115=t119):=by simpa using c19));clear c19
       as_aux_lemma=>
        have H':=aM H;clear H;go_wp2
        go_meet
        case rel=>exact ⟨_,(true),(by first|rfl|(simp;done)|(simp [*];done)),H',⟨by first|omega|exact Nat.le_refl _⟩,⟨by (with_reducible repeat first|apply Kd.Qd|apply Kd.Qe|apply Kd.R_drew);exact Kd.R_mono HO105.out (fun _ hk=>⟨hk.1.1.1,hk.1.2⟩)⟩,⟨by (with_reducible repeat first|apply Kd.Qd|apply Kd.Qe|apply Kd.R_drew);exact Kd.R_mono HO107.out (fun _ hk=>⟨hk.1.1.1,hk.1.2⟩)⟩,⟨by (with_reducible repeat first|apply Kd.Qd|apply Kd.Qe|apply Kd.R_drew);exact Kd.R_mono HO117.out (fun _ hk=>⟨hk.1.1.1.2,hk.1.1.2⟩)⟩,⟨by repeat (with_reducible first|exact HB.out|apply Qc|apply Qa|apply Qb)⟩⟩
      ·rw [if_neg c19] at H;have c19b0:(t115 != t119)=false:=by simpa using c19
       (try (have c19b1:decide (t115=t119)=true:=by simpa using c19));(try (have c19b2:(t115 == t119)=true:=by simpa using c19));clear c19;replace H:=Option.bind_eq_some_iff.mp H;obtain ⟨t122,A200,H⟩:=H;replace H:(laws_FnRanks.j0 k l1 t101 t102 t110 t111 t114 t115 (!t122))=some r:=H;have A20:=aM A200;clear A200
       as_aux_lemma=>
        have H':=aM H;clear H;obtain ⟨Ao21,co21,eo21⟩:=Kd.R_slice HO117.out;subst eo21;obtain ⟨Ao22,co22,eo22⟩:=Kd.R_slice HO121.out;subst eo22;go_wp2_with (first|(go_at_call 28;(with_reducible refine (laws_sameInts.calls k _ _ t114 _ _ t118 t122 _ ?side1 ?side2 ?side3 ?side4 A20.out).mono ?_);(case side1=>repeat first|exact (Kd.Qg HO117.out).2.2|(with_reducible first|refine Kd.Qh ?_ _|refine Kd.Qi ?_ _|refine Kd.C_drew ?_));(case side2=>exact (Kd.Qg HO117.out).2.1);(case side3=>repeat first|exact (Kd.Qg HO121.out).2.2|(with_reducible first|refine Kd.Qh ?_ _|refine Kd.Qi ?_ _|refine Kd.C_drew ?_));(case side4=>exact (Kd.Qg HO121.out).2.1);rintro e w' ⟨rfl,⟨nd,rfl⟩⟩))
        go_meet
        case rel=>exact ⟨_,(!t122),(by first|rfl|(simp;done)|(simp [*];done)),H',⟨by first|omega|exact Nat.le_refl _⟩,⟨by (with_reducible repeat first|apply Kd.Qd|apply Kd.Qe|apply Kd.R_drew);exact Kd.R_mono HO105.out (fun _ hk=>⟨hk.1.1.1,hk.1.2⟩)⟩,⟨by (with_reducible repeat first|apply Kd.Qd|apply Kd.Qe|apply Kd.R_drew);exact Kd.R_mono HO107.out (fun _ hk=>⟨hk.1.1.1,hk.1.2⟩)⟩,⟨by (with_reducible repeat first|apply Kd.Qd|apply Kd.Qe|apply Kd.R_drew);exact Kd.R_mono HO117.out (fun _ hk=>⟨hk.1.1.1.2,hk.1.1.2⟩)⟩,⟨by repeat (with_reducible first|exact HB.out|apply Qc|apply Qa|apply Qb)⟩⟩
     ·rw [if_neg c18] at H;have c18b0:(t110 == t112)=false:=beq_eq_false_iff_ne.mpr c18;have c18b1:(t110 != t112)=true:=bne_iff_ne.mpr c18
      as_aux_lemma=>
       have H':=aM H;clear H;go_wp2
       go_meet
       case rel=>exact ⟨_,(true),(by first|rfl|(simp;done)|(simp [*];done)),H',⟨by first|omega|exact Nat.le_refl _⟩,⟨by (with_reducible repeat first|apply Kd.Qd|apply Kd.Qe|apply Kd.R_drew);exact Kd.R_mono HO105.out (fun _ hk=>⟨hk.1.1.1,hk.1.2⟩)⟩,⟨by (with_reducible repeat first|apply Kd.Qd|apply Kd.Qe|apply Kd.R_drew);exact Kd.R_mono HO107.out (fun _ hk=>⟨hk.1.1.1,hk.1.2⟩)⟩,⟨by (with_reducible repeat first|apply Kd.Qd|apply Kd.Qe|apply Kd.R_drew);exact Kd.R_mono HO117.out (fun _ hk=>⟨hk.1.1.1.2,hk.1.1.2⟩)⟩,⟨by repeat (with_reducible first|exact HB.out|apply Qc|apply Qa|apply Qb)⟩⟩
   case rest=>
    clear HC9;(try clear c1);(try clear p2);(try clear c3);(try clear c3b0);(try clear c6);(try clear p6);(try clear c8);(try clear c17);(try clear c17b0);(try clear c17b1);(try clear c17b2);(try clear c18);(try clear c18b0);(try clear c18b1);(try clear c19);(try clear c19b0);(try clear c19b1);(try clear c19b2);obtain ⟨kq,x93_8,rfl,HA,HJ8,HO_5,HO_6,HO_12,HB⟩:=hcut
    cases kq with
    |zero=>exact absurd HA.out (by simp [laws_FnRanks.j0])
    |succ kj8=>
     have H:=HA.out;clear HA;simp only [laws_FnRanks.j0] at H;by_cases c23:x93_8=true
     ·subst c23;have H1:(some false)=some r:=by rw [if_pos rfl] at H;exact H
      clear H;have H:=H1;clear H1
      as_aux_lemma=>
       obtain rfl:=Option.some.inj H;go_wp2
       go_ret
       exact ⟨by first|rfl|(simp [errW_none,errW_some] <;> rfl)|(simp [*,errW_none,errW_some] <;> rfl),by repeat (with_reducible first|exact HB.out|apply Qc|apply Qa|apply Qb)⟩
     ·replace c23:=Bool.eq_false_iff.mpr c23;subst c23;have H1:(if t115=true then ((impl_OrderCost.f kj8 t101 t102 t114).bind fun bt123=>((impl_IsOrder.f t114 (t101.length:Int)).bind fun bt125=>(if bt123.2=true then (if bt125.2=true then (if bt125.1=true then (if t111=true then (laws_FnRanks.j1 kj8 l1 t101 t102 t114 (decide (bt123.1 > t110))) else (laws_FnRanks.j1 kj8 l1 t101 t102 t114 false)) else (laws_FnRanks.j1 kj8 l1 t101 t102 t114 true)) else (laws_FnRanks.j1 kj8 l1 t101 t102 t114 true)) else (laws_FnRanks.j1 kj8 l1 t101 t102 t114 true)))) else (laws_FnRanks.j2 kj8 l1))=some r:=by rw [if_neg (show ¬ (false=true) by decide)] at H;exact H
      clear H;have H:=H1;clear H1;have HC24:=aM H;clear H
      go_upto_if 94 with (fail)
      go_cut [] (fun wc=>∃ (kq:Nat),Aside0 (laws_FnRanks.j2 kq l1=some r)∧Aside0 (kq≤kj8)∧Aside0 (Below w.heap.size w wc))
      case first=>
       have H:=HC24.out;clear HC24;by_cases c25:t115=true
       ·subst c25;have H1:((impl_OrderCost.f kj8 t101 t102 t114).bind fun bt123=>((impl_IsOrder.f t114 (t101.length:Int)).bind fun bt125=>(if bt123.2=true then (if bt125.2=true then (if bt125.1=true then (if t111=true then (laws_FnRanks.j1 kj8 l1 t101 t102 t114 (decide (bt123.1 > t110))) else (laws_FnRanks.j1 kj8 l1 t101 t102 t114 false)) else (laws_FnRanks.j1 kj8 l1 t101 t102 t114 true)) else (laws_FnRanks.j1 kj8 l1 t101 t102 t114 true)) else (laws_FnRanks.j1 kj8 l1 t101 t102 t114 true))))=some r:=by rw [if_pos rfl] at H;exact H
        clear H;have H:=H1;clear H1;replace H:=Option.bind_eq_some_iff.mp H;obtain ⟨⟨t123,t124⟩,A260,H⟩:=H;replace H:((impl_IsOrder.f t114 (t101.length:Int)).bind fun bt125=>(if t124=true then (if bt125.2=true then (if bt125.1=true then (if t111=true then (laws_FnRanks.j1 kj8 l1 t101 t102 t114 (decide (t123 > t110))) else (laws_FnRanks.j1 kj8 l1 t101 t102 t114 false)) else (laws_FnRanks.j1 kj8 l1 t101 t102 t114 true)) else (laws_FnRanks.j1 kj8 l1 t101 t102 t114 true)) else (laws_FnRanks.j1 kj8 l1 t101 t102 t114 true)))=some r:=H;have A26:=aM A260;clear A260;replace H:=Option.bind_eq_some_iff.mp H;obtain ⟨⟨t125,t126⟩,A270,H⟩:=H;replace H:(if t124=true then (if t126=true then (if t125=true then (if t111=true then (laws_FnRanks.j1 kj8 l1 t101 t102 t114 (decide (t123 > t110))) else (laws_FnRanks.j1 kj8 l1 t101 t102 t114 false)) else (laws_FnRanks.j1 kj8 l1 t101 t102 t114 true)) else (laws_FnRanks.j1 kj8 l1 t101 t102 t114 true)) else (laws_FnRanks.j1 kj8 l1 t101 t102 t114 true))=some r:=H;have A27:=aM A270;clear A270;have HC28:=aM H;clear H;obtain ⟨Ao29,co29,eo29⟩:=Kd.R_slice HO_12.out;subst eo29
        go_upto_region 13 with (first|((with_reducible refine Qj (f:=66) rfl ?_);refine goesL_ (some 99) rfl rfl Try.func66 (by kernel_rfl) rfl #[.slice Ao11 t101.length co11,.slice Ao12 t102.length co12,.slice Ao29 t114.length co29] rfl (by (try simp only [aD,aE,aF]);first|done|rfl|(simp only [aG,aH];rfl)) ?_;(with_reducible refine (impl_OrderCost.calls kj8 _ _ t101 _ _ t102 _ _ t114 t123 t124 _ ?side1 ?side2 ?side3 ?side4 ?side5 ?side6 A26.out).mono ?_);(case side1=>repeat first|exact (Kd.Qg HO_5.out).2.2|(with_reducible first|refine Kd.Qh ?_ _|refine Kd.Qi ?_ _|refine Kd.C_drew ?_));(case side2=>exact (Kd.Qg HO_5.out).2.1);(case side3=>repeat first|exact (Kd.Qg HO_6.out).2.2|(with_reducible first|refine Kd.Qh ?_ _|refine Kd.Qi ?_ _|refine Kd.C_drew ?_));(case side4=>exact (Kd.Qg HO_6.out).2.1);(case side5=>repeat first|exact (Kd.Qg HO_12.out).2.2|(with_reducible first|refine Kd.Qh ?_ _|refine Kd.Qi ?_ _|refine Kd.C_drew ?_));(case side6=>exact (Kd.Qg HO_12.out).2.1);rintro e w30 ⟨rfl,hb⟩;refine ⟨_,rfl,?_⟩;have n0_:=aM (Kd.R_below (by (with_reducible repeat first|apply Kd.Qd|apply Kd.Qe|apply Kd.R_drew);exact HO_5.out) hb);have n1_:=aM (Kd.R_below (by (with_reducible repeat first|apply Kd.Qd|apply Kd.Qe|apply Kd.R_drew);exact HO_6.out) hb);have n2_:=aM (Kd.R_below (by (with_reducible repeat first|apply Kd.Qd|apply Kd.Qe|apply Kd.R_drew);exact HO_12.out) hb);have n3_:=aM (Qo (by repeat (with_reducible first|exact HB.out|apply Qc|apply Qa|apply Qb)) hb);clear HO_5 HO_6 HO_12 HB;have HO_5:=n0_;have HO_6:=n1_;have HO_12:=n2_;have HB:=n3_;clear n0_ n1_ n2_ n3_ hb)|((with_reducible refine Qj (f:=60) rfl ?_);refine goesL_ (some 106) rfl rfl Try.func60 (by kernel_rfl) rfl #[.slice Ao29 t114.length co29,.int .i64 (t101.length:Int)] rfl (by (try simp only [aD,aE,aF]);first|done|rfl|(simp only [aG,aH];rfl)) ?_;(with_reducible refine (impl_IsOrder.calls _ _ t114 (t101.length:Int) t125 t126 _ ?side1 ?side2 A27.out).mono ?_);(case side1=>repeat first|exact (Kd.Qg HO_12.out).2.2|(with_reducible first|refine Kd.Qh ?_ _|refine Kd.Qi ?_ _|refine Kd.C_drew ?_));(case side2=>exact (Kd.Qg HO_12.out).2.1);rintro e w31 ⟨rfl,hb⟩;refine ⟨_,rfl,?_⟩;have n0_:=aM (Kd.R_below (by (with_reducible repeat first|apply Kd.Qd|apply Kd.Qe|apply Kd.R_drew);exact HO_5.out) hb);have n1_:=aM (Kd.R_below (by (with_reducible repeat first|apply Kd.Qd|apply Kd.Qe|apply Kd.R_drew);exact HO_6.out) hb);have n2_:=aM (Kd.R_below (by (with_reducible repeat first|apply Kd.Qd|apply Kd.Qe|apply Kd.R_drew);exact HO_12.out) hb);have n3_:=aM (Qo (by repeat (with_reducible first|exact HB.out|apply Qc|apply Qa|apply Qb)) hb);clear HO_5 HO_6 HO_12 HB;have HO_5:=n0_;have HO_6:=n1_;have HO_12:=n2_;have HB:=n3_;clear n0_ n1_ n2_ n3_ hb))
        (try simp only [Act.put,aA,aB,aC])
        go_cut [126] (fun v126 wc=>∃ (kq:Nat) (x126_27:Bool),v126= .bool x126_27∧Aside0 (laws_FnRanks.j1 kq l1 t101 t102 t114 x126_27=some r)∧Aside0 (kq≤kj8)∧Aside0 (Kd.R (Kd.int .i64) 3 wc w.heap.size (fun k_=>some k_≠((.slice Ao12 t102.length co12):Value).ownBlock∧some k_≠((.slice Ao29 t114.length co29):Value).ownBlock) (.slice Ao11 t101.length co11) t101)∧Aside0 (Kd.R (Kd.int .i64) 3 wc w.heap.size (fun k_=>some k_≠((.slice Ao11 t101.length co11):Value).ownBlock∧some k_≠((.slice Ao29 t114.length co29):Value).ownBlock) (.slice Ao12 t102.length co12) t102)∧Aside0 (Kd.R (Kd.int .i64) 3 wc w.heap.size (fun k_=>some k_≠((.slice Ao11 t101.length co11):Value).ownBlock∧some k_≠((.slice Ao12 t102.length co12):Value).ownBlock) (.slice Ao29 t114.length co29) t114)∧Aside0 (Below w.heap.size w wc))
        case first=>
         have H:=HC28.out;clear HC28;by_cases c32:t124=true
         ·subst c32;have H1:(if t126=true then (if t125=true then (if t111=true then (laws_FnRanks.j1 kj8 l1 t101 t102 t114 (decide (t123 > t110))) else (laws_FnRanks.j1 kj8 l1 t101 t102 t114 false)) else (laws_FnRanks.j1 kj8 l1 t101 t102 t114 true)) else (laws_FnRanks.j1 kj8 l1 t101 t102 t114 true))=some r:=by rw [if_pos rfl] at H;exact H
          clear H;have H:=H1;clear H1;by_cases c33:t126=true
          ·subst c33;have H1:(if t125=true then (if t111=true then (laws_FnRanks.j1 kj8 l1 t101 t102 t114 (decide (t123 > t110))) else (laws_FnRanks.j1 kj8 l1 t101 t102 t114 false)) else (laws_FnRanks.j1 kj8 l1 t101 t102 t114 true))=some r:=by rw [if_pos rfl] at H;exact H
           clear H;have H:=H1;clear H1;by_cases c34:t125=true
           ·subst c34;have H1:(if t111=true then (laws_FnRanks.j1 kj8 l1 t101 t102 t114 (decide (t123 > t110))) else (laws_FnRanks.j1 kj8 l1 t101 t102 t114 false))=some r:=by rw [if_pos rfl] at H;exact H
            clear H;have H:=H1;clear H1;by_cases c35:t111=true
            ·subst c35;have H1:(laws_FnRanks.j1 kj8 l1 t101 t102 t114 (decide (t123 > t110)))=some r:=by rw [if_pos rfl] at H;exact H
             clear H;have H:=H1;clear H1
             as_aux_lemma=>
              have H':=aM H;clear H;go_wp2
              go_meet
              case rel=>exact ⟨_,(decide (t123 > t110)),(by first|rfl|(simp;done)|(simp [*];done)),H',⟨by have:=HJ8.out;first|omega|exact Nat.le_refl _⟩,⟨by (with_reducible repeat first|apply Kd.Qd|apply Kd.Qe|apply Kd.R_drew);exact HO_5.out⟩,⟨by (with_reducible repeat first|apply Kd.Qd|apply Kd.Qe|apply Kd.R_drew);exact HO_6.out⟩,⟨by (with_reducible repeat first|apply Kd.Qd|apply Kd.Qe|apply Kd.R_drew);exact HO_12.out⟩,⟨by repeat (with_reducible first|exact HB.out|apply Qc|apply Qa|apply Qb)⟩⟩
            ·replace c35:=Bool.eq_false_iff.mpr c35;subst c35;have H1:(laws_FnRanks.j1 kj8 l1 t101 t102 t114 false)=some r:=by rw [if_neg (show ¬ (false=true) by decide)] at H;exact H
             clear H;have H:=H1;clear H1
             as_aux_lemma=>
              have H':=aM H;clear H;go_wp2
              go_meet
              case rel=>exact ⟨_,(false),(by first|rfl|(simp;done)|(simp [*];done)),H',⟨by have:=HJ8.out;first|omega|exact Nat.le_refl _⟩,⟨by (with_reducible repeat first|apply Kd.Qd|apply Kd.Qe|apply Kd.R_drew);exact HO_5.out⟩,⟨by (with_reducible repeat first|apply Kd.Qd|apply Kd.Qe|apply Kd.R_drew);exact HO_6.out⟩,⟨by (with_reducible repeat first|apply Kd.Qd|apply Kd.Qe|apply Kd.R_drew);exact HO_12.out⟩,⟨by repeat (with_reducible first|exact HB.out|apply Qc|apply Qa|apply Qb)⟩⟩
           ·replace c34:=Bool.eq_false_iff.mpr c34;subst c34;have H1:(laws_FnRanks.j1 kj8 l1 t101 t102 t114 true)=some r:=by rw [if_neg (show ¬ (false=true) by decide)] at H;exact H
            clear H;have H:=H1;clear H1
            as_aux_lemma=>
             have H':=aM H;clear H;go_wp2
             go_meet
             case rel=>exact ⟨_,(true),(by first|rfl|(simp;done)|(simp [*];done)),H',⟨by have:=HJ8.out;first|omega|exact Nat.le_refl _⟩,⟨by (with_reducible repeat first|apply Kd.Qd|apply Kd.Qe|apply Kd.R_drew);exact HO_5.out⟩,⟨by (with_reducible repeat first|apply Kd.Qd|apply Kd.Qe|apply Kd.R_drew);exact HO_6.out⟩,⟨by (with_reducible repeat first|apply Kd.Qd|apply Kd.Qe|apply Kd.R_drew);exact HO_12.out⟩,⟨by repeat (with_reducible first|exact HB.out|apply Qc|apply Qa|apply Qb)⟩⟩
          ·replace c33:=Bool.eq_false_iff.mpr c33;subst c33;have H1:(laws_FnRanks.j1 kj8 l1 t101 t102 t114 true)=some r:=by rw [if_neg (show ¬ (false=true) by decide)] at H;exact H
           clear H;have H:=H1;clear H1
           as_aux_lemma=>
            have H':=aM H;clear H;go_wp2
            go_meet
            case rel=>exact ⟨_,(true),(by first|rfl|(simp;done)|(simp [*];done)),H',⟨by have:=HJ8.out;first|omega|exact Nat.le_refl _⟩,⟨by (with_reducible repeat first|apply Kd.Qd|apply Kd.Qe|apply Kd.R_drew);exact HO_5.out⟩,⟨by (with_reducible repeat first|apply Kd.Qd|apply Kd.Qe|apply Kd.R_drew);exact HO_6.out⟩,⟨by (with_reducible repeat first|apply Kd.Qd|apply Kd.Qe|apply Kd.R_drew);exact HO_12.out⟩,⟨by repeat (with_reducible first|exact HB.out|apply Qc|apply Qa|apply Qb)⟩⟩
         ·replace c32:=Bool.eq_false_iff.mpr c32;subst c32;have H1:(laws_FnRanks.j1 kj8 l1 t101 t102 t114 true)=some r:=by rw [if_neg (show ¬ (false=true) by decide)] at H;exact H
          clear H;have H:=H1;clear H1
          as_aux_lemma=>
           have H':=aM H;clear H;go_wp2
           go_meet
           case rel=>exact ⟨_,(true),(by first|rfl|(simp;done)|(simp [*];done)),H',⟨by have:=HJ8.out;first|omega|exact Nat.le_refl _⟩,⟨by (with_reducible repeat first|apply Kd.Qd|apply Kd.Qe|apply Kd.R_drew);exact HO_5.out⟩,⟨by (with_reducible repeat first|apply Kd.Qd|apply Kd.Qe|apply Kd.R_drew);exact HO_6.out⟩,⟨by (with_reducible repeat first|apply Kd.Qd|apply Kd.Qe|apply Kd.R_drew);exact HO_12.out⟩,⟨by repeat (with_reducible first|exact HB.out|apply Qc|apply Qa|apply Qb)⟩⟩
        case rest=>
         clear HC28;(try clear c1);(try clear c2);(try clear p2);(try clear c3);(try clear c3b0);(try clear c6);(try clear p6);(try clear c8);(try clear c17);(try clear c17b0);(try clear c17b1);(try clear c17b2);(try clear c18);(try clear c18b0);(try clear c18b1);(try clear c19);(try clear c19b0);(try clear c19b1);(try clear c19b2);(try clear c23);(try clear c25);(try clear c32);(try clear c33);(try clear c34);(try clear c35);(try clear p2);(try clear p6);obtain ⟨kq,x126_27,rfl,HA,HJ27,HO_5,HO_6,HO_12,HB⟩:=hcut
         cases kq with
         |zero=>exact absurd HA.out (by simp [laws_FnRanks.j1])
         |succ kj27=>
          have H:=HA.out;clear HA;simp only [laws_FnRanks.j1] at H;by_cases c36:x126_27=true
          ·subst c36;have H1:(some false)=some r:=by rw [if_pos rfl] at H;exact H
           clear H;have H:=H1;clear H1
           as_aux_lemma=>
            obtain rfl:=Option.some.inj H;go_wp2
            go_ret
            exact ⟨by first|rfl|(simp [errW_none,errW_some] <;> rfl)|(simp [*,errW_none,errW_some] <;> rfl),by repeat (with_reducible first|exact HB.out|apply Qc|apply Qa|apply Qb)⟩
          ·replace c36:=Bool.eq_false_iff.mpr c36;subst c36;have H1:(if (t101.length:Int) > 0 then ((laws_numberOf.f kj27 l1).bind fun t127=>(if (t101.length:Int)=0 then (none) else ((laws_numberOf.f kj27 l1).bind fun t128=>((impl_SwapGain.f kj27 t101 t102 t114 (Int.tmod t127 (t101.length:Int)) (Int.tmod (wrap64 (Int.tdiv t128 11)) (t101.length:Int))).bind fun bt129=>(if bt129.2=true then (if bt129.1 > 0 then (some false) else (laws_FnRanks.j2 kj27 l1)) else (some false)))))) else (laws_FnRanks.j2 kj27 l1))=some r:=by rw [if_neg (show ¬ (false=true) by decide)] at H;exact H
           clear H;have H:=H1;clear H1;by_cases c37:(t101.length:Int) > 0
           ·rw [if_pos c37] at H;have c37b0:decide (0<(t101.length:Int))=true:=aL c37;have c37b1:decide (0<t101.length)=true:=aL (by omega);clear c37;replace H:=Option.bind_eq_some_iff.mp H;obtain ⟨t127,A380,H⟩:=H;replace H:(if (t101.length:Int)=0 then (none) else ((laws_numberOf.f kj27 l1).bind fun t128=>((impl_SwapGain.f kj27 t101 t102 t114 (Int.tmod t127 (t101.length:Int)) (Int.tmod (wrap64 (Int.tdiv t128 11)) (t101.length:Int))).bind fun bt129=>(if bt129.2=true then (if bt129.1 > 0 then (some false) else (laws_FnRanks.j2 kj27 l1)) else (some false)))))=some r:=H;have A38:=aM A380;clear A380;by_cases c39:(t101.length:Int)=0
            ·rw [if_pos c39] at H;exact absurd H (by simp)
            ·rw [if_neg c39] at H;have c39b0:((t101.length:Int) == 0)=false:=beq_eq_false_iff_ne.mpr c39;have c39b1:((t101.length:Int) != 0)=true:=bne_iff_ne.mpr c39;have c39b2: ¬ (t101=[]):=fun h_=>c39 (by rw [h_];rfl)
             replace H:=Option.bind_eq_some_iff.mp H;obtain ⟨t128,A400,H⟩:=H;replace H:((impl_SwapGain.f kj27 t101 t102 t114 (Int.tmod t127 (t101.length:Int)) (Int.tmod (wrap64 (Int.tdiv t128 11)) (t101.length:Int))).bind fun bt129=>(if bt129.2=true then (if bt129.1 > 0 then (some false) else (laws_FnRanks.j2 kj27 l1)) else (some false)))=some r:=H;have A40:=aM A400;clear A400;replace H:=Option.bind_eq_some_iff.mp H;obtain ⟨⟨t129,t130⟩,A410,H⟩:=H;replace H:(if t130=true then (if t129 > 0 then (some false) else (laws_FnRanks.j2 kj27 l1)) else (some false))=some r:=H;have A41:=aM A410;clear A410;by_cases c42:t130=true
             ·subst c42;have H1:(if t129 > 0 then (some false) else (laws_FnRanks.j2 kj27 l1))=some r:=by rw [if_pos rfl] at H;exact H
              clear H;have H:=H1;clear H1;by_cases c43:t129 > 0
              ·rw [if_pos c43] at H;have c43b0:decide (0<t129)=true:=aL c43;clear c43
               as_aux_lemma=>
                obtain rfl:=Option.some.inj H
                try go_wp2
                have n0_:=aM (Kd.R_drew HO_5.out);have n1_:=aM (Kd.R_drew HO_6.out);have n2_:=aM (Kd.R_drew HO_12.out);have n3_:=aM (Qb HB.out);clear HO_5 HO_6 HO_12 HB;have HO_5:=n0_;have HO_6:=n1_;have HO_12:=n2_;have HB:=n3_;clear n0_ n1_ n2_ n3_;refine start_ (n:=20) (S:=fun w'=>True) (ds:=[]) (bz 20 0) (by kernel_rfl) rfl rfl trivial (fun hHeld=>?_);refine with_tabW laws_FnRanks.tab16 laws_FnRanks.bits16 (fun HT_ HW_=>?_)
                generalize wc.drew=w44 at HO_5 HO_6 HO_12 HB hHeld ⊢
                refine pure_ (i:=0) (N:=some 131) (v:=?_) (a':=?_) (bz 20 1) rfl rfl (any_of HT_.out (by kernel_rfl)) (fun _ _ _ h=>h) (Or.inl ⟨by rfl,?_⟩) ?_ ?_;rotate_left;(intro w';go_simp;with_reducible rfl);rotate_left;(simp only [Act.put,aA,aB,aC,i64_w,i32_w];rfl);refine pure_ (i:=1) (N:=some 132) (v:=?_) (a':=?_) (bz 20 3) rfl rfl (any_of HT_.out (by kernel_rfl)) (fun _ _ _ h=>h) (Or.inl ⟨by rfl,?_⟩) ?_ ?_;rotate_left;(intro w';go_simp;with_reducible rfl);rotate_left;(simp only [Act.put,aA,aB,aC,i64_w,i32_w];rfl);refine pure_ (i:=2) (N:=some 133) (v:=?_) (a':=?_) (bz 20 7) rfl rfl (any_of HT_.out (by kernel_rfl)) (fun _ _ _ h=>h) (Or.inl ⟨by rfl,?_⟩) ?_ ?_;rotate_left;(intro w';go_simp;with_reducible rfl);rotate_left;(simp only [Act.put,aA,aB,aC,i64_w,i32_w];rfl);refine pure_ (i:=3) (N:=some 134) (v:=?_) (a':=?_) (bz 20 15) rfl rfl (any_of HT_.out (by kernel_rfl)) (fun _ _ _ h=>h) (Or.inl ⟨by rfl,?_⟩) ?_ ?_;rotate_left;(intro w';go_simp;with_reducible rfl);rotate_left;(simp only [Act.put,aA,aB,aC,i64_w,i32_w];rfl);refine pure_ (i:=5) (N:=some 136) (v:=?_) (a':=?_) (bz 20 47) rfl rfl (any_of HT_.out (by kernel_rfl)) (fun _ _ _ h=>h) (Or.inl ⟨by rfl,?_⟩) ?_ ?_;rotate_left;(intro w';go_simp;with_reducible rfl);rotate_left;(simp only [Act.put,aA,aB,aC,i64_w,i32_w];rfl);refine pure_ (i:=6) (N:=some 137) (v:=?_) (a':=?_) (bz 20 111) rfl rfl (any_of HT_.out (by kernel_rfl)) (fun _ _ _ h=>h) (Or.inl ⟨by rfl,?_⟩) ?_ ?_;rotate_left;(intro w';go_simp;with_reducible rfl);rotate_left;(simp only [Act.put,aA,aB,aC,i64_w,i32_w];rfl);refine pure_ (i:=8) (N:=some 139) (v:=?_) (a':=?_) (bz 20 367) rfl rfl (any_of HT_.out (by kernel_rfl)) (fun _ _ _ h=>h) (Or.inl ⟨by rfl,?_⟩) ?_ ?_;rotate_left;(intro w';go_simp;with_reducible rfl);rotate_left;(simp only [Act.put,aA,aB,aC,i64_w,i32_w];rfl);refine pure_ (i:=11) (N:=some 142) (v:=?_) (a':=?_) (bz 20 2415) rfl rfl (any_of HT_.out (by kernel_rfl)) (fun _ _ _ h=>h) (Or.inl ⟨by rfl,?_⟩) ?_ ?_;rotate_left;(intro w';go_simp;with_reducible rfl);rotate_left;(simp only [Act.put,aA,aB,aC,i64_w,i32_w];rfl);refine pure_ (i:=12) (N:=some 143) (v:=?_) (a':=?_) (bz 20 6511) rfl rfl (any_of HT_.out (by kernel_rfl)) (fun _ _ _ h=>h) (Or.inl ⟨by rfl,?_⟩) ?_ ?_;rotate_left;(intro w';go_simp;with_reducible rfl);rotate_left;(simp only [Act.put,aA,aB,aC,i64_w,i32_w];rfl);refine one_ (i:=4) (N:=some 135) (bz 20 6527) rfl rfl (one_of HT_.out (by kernel_rfl)) (by decide) (fun K hK=>?_)
                first|(refine goes_ Try.func32 (by kernel_rfl) rfl #[.slice A1 l1.length c1] (by rfl) rfl rfl (by (try simp only [aD,aE,aF]);first|done|rfl|(simp only [aG,aH];rfl)) ?_)|(refine call_ 32 #[.slice A1 l1.length c1] (by rfl) rfl (by unfold execOp;simp [resolve,Deferred.ofValue,invoke,Act.eval,enters_ Try.func32 (by kernel_rfl) rfl]) ?_)
                with_reducible refine (laws_numberOf.calls kj27 _ _ l1 t127 _ ?side1 ?side2 A38.out).mono ?_
                (case side1=>repeat first|exact (Kd.C_below HR1.out HB.out)|(with_reducible first|refine Kd.Qh ?_ _|refine Kd.Qi ?_ _|refine Kd.C_drew ?_))
                (case side2=>exact HC1.out)
                rintro e w' ⟨rfl,⟨nd,rfl⟩⟩
                refine ⟨_,rfl,?_⟩;refine hK.out _ _ trivial (fun hHeld=>?_);clear hK K;refine norm_ (a':=?_) ?_ ?_
                rotate_left
                ·show Act.put _ (some 135) _=_
                 simp only [Act.put,aA,aB,aC,i64_w,i32_w]
                 rfl
                refine pure_ (i:=7) (N:=some 138) (v:=?_) (a':=?_) (bz 20 6655) rfl rfl (any_of HT_.out (by kernel_rfl)) (fun _ _ _ h=>h) (Or.inl ⟨by rfl,?_⟩) ?_ ?_;rotate_left;(intro w';go_simp;with_reducible rfl);rotate_left;(simp only [Act.put,aA,aB,aC,i64_w,i32_w];rfl);refine one_ (i:=9) (N:=some 140) (bz 20 7167) rfl rfl (one_of HT_.out (by kernel_rfl)) (by decide) (fun K hK=>?_)
                first|(refine goes_ Try.func32 (by kernel_rfl) rfl #[.slice A1 l1.length c1] (by rfl) rfl rfl (by (try simp only [aD,aE,aF]);first|done|rfl|(simp only [aG,aH];rfl)) ?_)|(refine call_ 32 #[.slice A1 l1.length c1] (by rfl) rfl (by unfold execOp;simp [resolve,Deferred.ofValue,invoke,Act.eval,enters_ Try.func32 (by kernel_rfl) rfl]) ?_)
                with_reducible refine (laws_numberOf.calls kj27 _ _ l1 t128 _ ?side1 ?side2 A40.out).mono ?_
                (case side1=>repeat first|exact (Kd.C_below HR1.out (by repeat (with_reducible first|exact HB.out|apply Qc|apply Qa|apply Qb)))|(with_reducible first|refine Kd.Qh ?_ _|refine Kd.Qi ?_ _|refine Kd.C_drew ?_))
                (case side2=>exact HC1.out)
                rintro e w' ⟨rfl,⟨nd,rfl⟩⟩
                refine ⟨_,rfl,?_⟩;refine hK.out _ _ trivial (fun hHeld=>?_);clear hK K;refine norm_ (a':=?_) ?_ ?_
                rotate_left
                ·show Act.put _ (some 140) _=_
                 simp only [Act.put,aA,aB,aC,i64_w,i32_w]
                 rfl
                refine pure_ (i:=10) (N:=some 141) (v:=?_) (a':=?_) (bz 20 8191) rfl rfl (any_of HT_.out (by kernel_rfl)) (fun _ _ _ h=>h) (Or.inl ⟨by rfl,?_⟩) ?_ ?_;rotate_left;(intro w';go_simp;with_reducible rfl);rotate_left;(simp only [Act.put,aA,aB,aC,i64_w,i32_w];rfl);refine pure_ (i:=13) (N:=some 144) (v:=?_) (a':=?_) (bz 20 16383) rfl rfl (any_of HT_.out (by kernel_rfl)) (fun _ _ _ h=>h) (Or.inl ⟨by rfl,?_⟩) ?_ ?_;rotate_left;(intro w';go_simp;with_reducible rfl);rotate_left;(simp only [Act.put,aA,aB,aC,i64_w,i32_w];rfl);refine one_ (i:=14) (N:=some 145) (bz 20 32767) rfl rfl (one_of HT_.out (by kernel_rfl)) (by decide) (fun K hK=>?_)
                first|(refine goes_ Try.func70 (by kernel_rfl) rfl #[.slice Ao11 t101.length co11,.slice Ao12 t102.length co12,.slice Ao29 t114.length co29,.int .i64 (Int.tmod t127 (t101.length:Int)),.int .i64 (Int.tmod (wrap64 (Int.tdiv t128 11)) (t101.length:Int))] (by rfl) rfl rfl (by (try simp only [aD,aE,aF]);first|done|rfl|(simp only [aG,aH];rfl)) ?_)|(refine call_ 70 #[.slice Ao11 t101.length co11,.slice Ao12 t102.length co12,.slice Ao29 t114.length co29,.int .i64 (Int.tmod t127 (t101.length:Int)),.int .i64 (Int.tmod (wrap64 (Int.tdiv t128 11)) (t101.length:Int))] (by rfl) rfl (by unfold execOp;simp [resolve,Deferred.ofValue,invoke,Act.eval,enters_ Try.func70 (by kernel_rfl) rfl]) ?_)
                with_reducible refine (impl_SwapGain.calls kj27 _ _ t101 _ _ t102 _ _ t114 (Int.tmod t127 (t101.length:Int)) (Int.tmod (wrap64 (Int.tdiv t128 11)) (t101.length:Int)) t129 true _ ?side1 ?side2 ?side3 ?side4 ?side5 ?side6 A41.out).mono ?_
                (case side1=>repeat first|exact (Kd.Qg HO_5.out).2.2|(with_reducible first|refine Kd.Qh ?_ _|refine Kd.Qi ?_ _|refine Kd.C_drew ?_))
                (case side2=>exact (Kd.Qg HO_5.out).2.1)
                (case side3=>repeat first|exact (Kd.Qg HO_6.out).2.2|(with_reducible first|refine Kd.Qh ?_ _|refine Kd.Qi ?_ _|refine Kd.C_drew ?_))
                (case side4=>exact (Kd.Qg HO_6.out).2.1)
                (case side5=>repeat first|exact (Kd.Qg HO_12.out).2.2|(with_reducible first|refine Kd.Qh ?_ _|refine Kd.Qi ?_ _|refine Kd.C_drew ?_))
                (case side6=>exact (Kd.Qg HO_12.out).2.1)
                rintro e w45 ⟨rfl,hb⟩
                refine ⟨_,rfl,?_⟩;have n0_:=aM (Kd.R_below (by (with_reducible repeat first|apply Kd.Qd|apply Kd.Qe|apply Kd.R_drew);exact HO_5.out) hb);have n1_:=aM (Kd.R_below (by (with_reducible repeat first|apply Kd.Qd|apply Kd.Qe|apply Kd.R_drew);exact HO_6.out) hb);have n2_:=aM (Kd.R_below (by (with_reducible repeat first|apply Kd.Qd|apply Kd.Qe|apply Kd.R_drew);exact HO_12.out) hb);have n3_:=aM (Qo (by repeat (with_reducible first|exact HB.out|apply Qc|apply Qa|apply Qb)) hb);clear HO_5 HO_6 HO_12 HB;have HO_5:=n0_;have HO_6:=n1_;have HO_12:=n2_;have HB:=n3_;clear n0_ n1_ n2_ n3_;(try clear hb);(try clear hb2);(try clear hk);(try clear hi);refine hK.out _ _ trivial (fun hHeld=>?_);clear hK K;refine norm_ (a':=?_) ?_ ?_
                rotate_left
                ·show Act.put _ (some 145) _=_
                 simp only [Act.put,aA,aB,aC,i64_w,i32_w]
                 rfl
                refine pure_ (i:=15) (N:=some 130) (v:=?_) (a':=?_) (bz 20 65535) rfl rfl (any_of HT_.out (by kernel_rfl)) (fun _ _ _ h=>h) (Or.inl ⟨by rfl,?_⟩) ?_ ?_;rotate_left;(intro w';go_simp;with_reducible rfl);rotate_left;(simp only [Act.put,aA,aB,aC,i64_w,i32_w];rfl);refine pure_ (i:=16) (N:=some 146) (v:=?_) (a':=?_) (bz 20 131071) rfl rfl (any_of HT_.out (by kernel_rfl)) (fun _ _ _ h=>h) (Or.inl ⟨by rfl,?_⟩) ?_ ?_;rotate_left;(intro w';go_simp;with_reducible rfl);rotate_left;(simp only [Act.put,aA,aB,aC,i64_w,i32_w];rfl);refine pure_ (i:=17) (N:=some 147) (v:=?_) (a':=?_) (bz 20 262143) rfl rfl (any_of HT_.out (by kernel_rfl)) (fun _ _ _ h=>h) (Or.inl ⟨by rfl,?_⟩) ?_ ?_;rotate_left;(intro w';go_simp;with_reducible rfl);rotate_left;(simp only [Act.put,aA,aB,aC,i64_w,i32_w];rfl);refine pure_ (i:=18) (N:=some 20) (v:=?_) (a':=?_) (bz 20 524287) rfl rfl (any_of HT_.out (by kernel_rfl)) (fun _ _ _ h=>h) (Or.inl ⟨by rfl,?_⟩) ?_ ?_;rotate_left;(intro w';go_simp;with_reducible rfl);rotate_left;(simp only [Act.put,aA,aB,aC,i64_w,i32_w];rfl);refine pure_ (i:=19) (N:=some 21) (v:=?_) (a':=?_) (bz 20 1048575) rfl rfl (any_of HT_.out (by kernel_rfl)) (fun _ _ _ h=>h) (Or.inl ⟨by rfl,?_⟩) ?_ ?_;rotate_left;(intro w';go_simp;with_reducible rfl);rotate_left;(simp only [Act.put,aA,aB,aC,i64_w,i32_w];rfl);refine done_ (done_of HT_.out (by kernel_rfl)) ?_
                try go_wp2
                go_ret
                exact ⟨by first|rfl|(simp [errW_none,errW_some] <;> rfl)|(simp [*,errW_none,errW_some] <;> rfl),by repeat (with_reducible first|exact HB.out|apply Qc|apply Qa|apply Qb)⟩
              ·rw [if_neg c43] at H;have c43b0:decide (0<t129)=false:=aN c43;clear c43
               as_aux_lemma=>
                have H':=aM H;clear H
                try go_wp2
                have n0_:=aM (Kd.R_drew HO_5.out);have n1_:=aM (Kd.R_drew HO_6.out);have n2_:=aM (Kd.R_drew HO_12.out);have n3_:=aM (Qb HB.out);clear HO_5 HO_6 HO_12 HB;have HO_5:=n0_;have HO_6:=n1_;have HO_12:=n2_;have HB:=n3_;clear n0_ n1_ n2_ n3_;refine start_ (n:=20) (S:=fun w'=>True) (ds:=[]) (bz 20 0) (by kernel_rfl) rfl rfl trivial (fun hHeld=>?_);refine with_tabW laws_FnRanks.tab16 laws_FnRanks.bits16 (fun HT_ HW_=>?_)
                generalize wc.drew=w46 at HO_5 HO_6 HO_12 HB hHeld ⊢
                refine pure_ (i:=0) (N:=some 131) (v:=?_) (a':=?_) (bz 20 1) rfl rfl (any_of HT_.out (by kernel_rfl)) (fun _ _ _ h=>h) (Or.inl ⟨by rfl,?_⟩) ?_ ?_;rotate_left;(intro w';go_simp;with_reducible rfl);rotate_left;(simp only [Act.put,aA,aB,aC,i64_w,i32_w];rfl);refine pure_ (i:=1) (N:=some 132) (v:=?_) (a':=?_) (bz 20 3) rfl rfl (any_of HT_.out (by kernel_rfl)) (fun _ _ _ h=>h) (Or.inl ⟨by rfl,?_⟩) ?_ ?_;rotate_left;(intro w';go_simp;with_reducible rfl);rotate_left;(simp only [Act.put,aA,aB,aC,i64_w,i32_w];rfl);refine pure_ (i:=2) (N:=some 133) (v:=?_) (a':=?_) (bz 20 7) rfl rfl (any_of HT_.out (by kernel_rfl)) (fun _ _ _ h=>h) (Or.inl ⟨by rfl,?_⟩) ?_ ?_;rotate_left;(intro w';go_simp;with_reducible rfl);rotate_left;(simp only [Act.put,aA,aB,aC,i64_w,i32_w];rfl);refine pure_ (i:=3) (N:=some 134) (v:=?_) (a':=?_) (bz 20 15) rfl rfl (any_of HT_.out (by kernel_rfl)) (fun _ _ _ h=>h) (Or.inl ⟨by rfl,?_⟩) ?_ ?_;rotate_left;(intro w';go_simp;with_reducible rfl);rotate_left;(simp only [Act.put,aA,aB,aC,i64_w,i32_w];rfl);refine pure_ (i:=5) (N:=some 136) (v:=?_) (a':=?_) (bz 20 47) rfl rfl (any_of HT_.out (by kernel_rfl)) (fun _ _ _ h=>h) (Or.inl ⟨by rfl,?_⟩) ?_ ?_;rotate_left;(intro w';go_simp;with_reducible rfl);rotate_left;(simp only [Act.put,aA,aB,aC,i64_w,i32_w];rfl);refine pure_ (i:=6) (N:=some 137) (v:=?_) (a':=?_) (bz 20 111) rfl rfl (any_of HT_.out (by kernel_rfl)) (fun _ _ _ h=>h) (Or.inl ⟨by rfl,?_⟩) ?_ ?_;rotate_left;(intro w';go_simp;with_reducible rfl);rotate_left;(simp only [Act.put,aA,aB,aC,i64_w,i32_w];rfl);refine pure_ (i:=8) (N:=some 139) (v:=?_) (a':=?_) (bz 20 367) rfl rfl (any_of HT_.out (by kernel_rfl)) (fun _ _ _ h=>h) (Or.inl ⟨by rfl,?_⟩) ?_ ?_;rotate_left;(intro w';go_simp;with_reducible rfl);rotate_left;(simp only [Act.put,aA,aB,aC,i64_w,i32_w];rfl);refine pure_ (i:=11) (N:=some 142) (v:=?_) (a':=?_) (bz 20 2415) rfl rfl (any_of HT_.out (by kernel_rfl)) (fun _ _ _ h=>h) (Or.inl ⟨by rfl,?_⟩) ?_ ?_;rotate_left;(intro w';go_simp;with_reducible rfl);rotate_left;(simp only [Act.put,aA,aB,aC,i64_w,i32_w];rfl);refine pure_ (i:=12) (N:=some 143) (v:=?_) (a':=?_) (bz 20 6511) rfl rfl (any_of HT_.out (by kernel_rfl)) (fun _ _ _ h=>h) (Or.inl ⟨by rfl,?_⟩) ?_ ?_;rotate_left;(intro w';go_simp;with_reducible rfl);rotate_left;(simp only [Act.put,aA,aB,aC,i64_w,i32_w];rfl);refine one_ (i:=4) (N:=some 135) (bz 20 6527) rfl rfl (one_of HT_.out (by kernel_rfl)) (by decide) (fun K hK=>?_)
                first|(refine goes_ Try.func32 (by kernel_rfl) rfl #[.slice A1 l1.length c1] (by rfl) rfl rfl (by (try simp only [aD,aE,aF]);first|done|rfl|(simp only [aG,aH];rfl)) ?_)|(refine call_ 32 #[.slice A1 l1.length c1] (by rfl) rfl (by unfold execOp;simp [resolve,Deferred.ofValue,invoke,Act.eval,enters_ Try.func32 (by kernel_rfl) rfl]) ?_)
                with_reducible refine (laws_numberOf.calls kj27 _ _ l1 t127 _ ?side1 ?side2 A38.out).mono ?_
                (case side1=>repeat first|exact (Kd.C_below HR1.out HB.out)|(with_reducible first|refine Kd.Qh ?_ _|refine Kd.Qi ?_ _|refine Kd.C_drew ?_))
                (case side2=>exact HC1.out)
                rintro e w' ⟨rfl,⟨nd,rfl⟩⟩
                refine ⟨_,rfl,?_⟩;refine hK.out _ _ trivial (fun hHeld=>?_);clear hK K;refine norm_ (a':=?_) ?_ ?_
                rotate_left
                ·show Act.put _ (some 135) _=_
                 simp only [Act.put,aA,aB,aC,i64_w,i32_w]
                 rfl
                refine pure_ (i:=7) (N:=some 138) (v:=?_) (a':=?_) (bz 20 6655) rfl rfl (any_of HT_.out (by kernel_rfl)) (fun _ _ _ h=>h) (Or.inl ⟨by rfl,?_⟩) ?_ ?_;rotate_left;(intro w';go_simp;with_reducible rfl);rotate_left;(simp only [Act.put,aA,aB,aC,i64_w,i32_w];rfl);refine one_ (i:=9) (N:=some 140) (bz 20 7167) rfl rfl (one_of HT_.out (by kernel_rfl)) (by decide) (fun K hK=>?_)
                first|(refine goes_ Try.func32 (by kernel_rfl) rfl #[.slice A1 l1.length c1] (by rfl) rfl rfl (by (try simp only [aD,aE,aF]);first|done|rfl|(simp only [aG,aH];rfl)) ?_)|(refine call_ 32 #[.slice A1 l1.length c1] (by rfl) rfl (by unfold execOp;simp [resolve,Deferred.ofValue,invoke,Act.eval,enters_ Try.func32 (by kernel_rfl) rfl]) ?_)
                with_reducible refine (laws_numberOf.calls kj27 _ _ l1 t128 _ ?side1 ?side2 A40.out).mono ?_
                (case side1=>repeat first|exact (Kd.C_below HR1.out (by repeat (with_reducible first|exact HB.out|apply Qc|apply Qa|apply Qb)))|(with_reducible first|refine Kd.Qh ?_ _|refine Kd.Qi ?_ _|refine Kd.C_drew ?_))
                (case side2=>exact HC1.out)
                rintro e w' ⟨rfl,⟨nd,rfl⟩⟩
                refine ⟨_,rfl,?_⟩;refine hK.out _ _ trivial (fun hHeld=>?_);clear hK K;refine norm_ (a':=?_) ?_ ?_
                rotate_left
                ·show Act.put _ (some 140) _=_
                 simp only [Act.put,aA,aB,aC,i64_w,i32_w]
                 rfl
                refine pure_ (i:=10) (N:=some 141) (v:=?_) (a':=?_) (bz 20 8191) rfl rfl (any_of HT_.out (by kernel_rfl)) (fun _ _ _ h=>h) (Or.inl ⟨by rfl,?_⟩) ?_ ?_;rotate_left;(intro w';go_simp;with_reducible rfl);rotate_left;(simp only [Act.put,aA,aB,aC,i64_w,i32_w];rfl);refine pure_ (i:=13) (N:=some 144) (v:=?_) (a':=?_) (bz 20 16383) rfl rfl (any_of HT_.out (by kernel_rfl)) (fun _ _ _ h=>h) (Or.inl ⟨by rfl,?_⟩) ?_ ?_;rotate_left;(intro w';go_simp;with_reducible rfl);rotate_left;(simp only [Act.put,aA,aB,aC,i64_w,i32_w];rfl);refine one_ (i:=14) (N:=some 145) (bz 20 32767) rfl rfl (one_of HT_.out (by kernel_rfl)) (by decide) (fun K hK=>?_)
                first|(refine goes_ Try.func70 (by kernel_rfl) rfl #[.slice Ao11 t101.length co11,.slice Ao12 t102.length co12,.slice Ao29 t114.length co29,.int .i64 (Int.tmod t127 (t101.length:Int)),.int .i64 (Int.tmod (wrap64 (Int.tdiv t128 11)) (t101.length:Int))] (by rfl) rfl rfl (by (try simp only [aD,aE,aF]);first|done|rfl|(simp only [aG,aH];rfl)) ?_)|(refine call_ 70 #[.slice Ao11 t101.length co11,.slice Ao12 t102.length co12,.slice Ao29 t114.length co29,.int .i64 (Int.tmod t127 (t101.length:Int)),.int .i64 (Int.tmod (wrap64 (Int.tdiv t128 11)) (t101.length:Int))] (by rfl) rfl (by unfold execOp;simp [resolve,Deferred.ofValue,invoke,Act.eval,enters_ Try.func70 (by kernel_rfl) rfl]) ?_)
                with_reducible refine (impl_SwapGain.calls kj27 _ _ t101 _ _ t102 _ _ t114 (Int.tmod t127 (t101.length:Int)) (Int.tmod (wrap64 (Int.tdiv t128 11)) (t101.length:Int)) t129 true _ ?side1 ?side2 ?side3 ?side4 ?side5 ?side6 A41.out).mono ?_
                (case side1=>repeat first|exact (Kd.Qg HO_5.out).2.2|(with_reducible first|refine Kd.Qh ?_ _|refine Kd.Qi ?_ _|refine Kd.C_drew ?_))
                (case side2=>exact (Kd.Qg HO_5.out).2.1)
                (case side3=>repeat first|exact (Kd.Qg HO_6.out).2.2|(with_reducible first|refine Kd.Qh ?_ _|refine Kd.Qi ?_ _|refine Kd.C_drew ?_))
                (case side4=>exact (Kd.Qg HO_6.out).2.1)
                (case side5=>repeat first|exact (Kd.Qg HO_12.out).2.2|(with_reducible first|refine Kd.Qh ?_ _|refine Kd.Qi ?_ _|refine Kd.C_drew ?_))
                (case side6=>exact (Kd.Qg HO_12.out).2.1)
                rintro e w47 ⟨rfl,hb⟩
                refine ⟨_,rfl,?_⟩;have n0_:=aM (Kd.R_below (by (with_reducible repeat first|apply Kd.Qd|apply Kd.Qe|apply Kd.R_drew);exact HO_5.out) hb);have n1_:=aM (Kd.R_below (by (with_reducible repeat first|apply Kd.Qd|apply Kd.Qe|apply Kd.R_drew);exact HO_6.out) hb);have n2_:=aM (Kd.R_below (by (with_reducible repeat first|apply Kd.Qd|apply Kd.Qe|apply Kd.R_drew);exact HO_12.out) hb);have n3_:=aM (Qo (by repeat (with_reducible first|exact HB.out|apply Qc|apply Qa|apply Qb)) hb);clear HO_5 HO_6 HO_12 HB;have HO_5:=n0_;have HO_6:=n1_;have HO_12:=n2_;have HB:=n3_;clear n0_ n1_ n2_ n3_;(try clear hb);(try clear hb2);(try clear hk);(try clear hi);refine hK.out _ _ trivial (fun hHeld=>?_);clear hK K;refine norm_ (a':=?_) ?_ ?_
                rotate_left
                ·show Act.put _ (some 145) _=_
                 simp only [Act.put,aA,aB,aC,i64_w,i32_w]
                 rfl
                refine pure_ (i:=15) (N:=some 130) (v:=?_) (a':=?_) (bz 20 65535) rfl rfl (any_of HT_.out (by kernel_rfl)) (fun _ _ _ h=>h) (Or.inl ⟨by rfl,?_⟩) ?_ ?_;rotate_left;(intro w';go_simp;with_reducible rfl);rotate_left;(simp only [Act.put,aA,aB,aC,i64_w,i32_w];rfl);refine pure_ (i:=16) (N:=some 146) (v:=?_) (a':=?_) (bz 20 131071) rfl rfl (any_of HT_.out (by kernel_rfl)) (fun _ _ _ h=>h) (Or.inl ⟨by rfl,?_⟩) ?_ ?_;rotate_left;(intro w';go_simp;with_reducible rfl);rotate_left;(simp only [Act.put,aA,aB,aC,i64_w,i32_w];rfl);refine pure_ (i:=17) (N:=some 147) (v:=?_) (a':=?_) (bz 20 262143) rfl rfl (any_of HT_.out (by kernel_rfl)) (fun _ _ _ h=>h) (Or.inl ⟨by rfl,?_⟩) ?_ ?_;rotate_left;(intro w';go_simp;with_reducible rfl);rotate_left;(simp only [Act.put,aA,aB,aC,i64_w,i32_w];rfl);refine pure_ (i:=18) (N:=some 20) (v:=?_) (a':=?_) (bz 20 524287) rfl rfl (any_of HT_.out (by kernel_rfl)) (fun _ _ _ h=>h) (Or.inl ⟨by rfl,?_⟩) ?_ ?_;rotate_left;(intro w';go_simp;with_reducible rfl);rotate_left;(simp only [Act.put,aA,aB,aC,i64_w,i32_w];rfl);refine pure_ (i:=19) (N:=some 21) (v:=?_) (a':=?_) (bz 20 1048575) rfl rfl (any_of HT_.out (by kernel_rfl)) (fun _ _ _ h=>h) (Or.inl ⟨by rfl,?_⟩) ?_ ?_;rotate_left;(intro w';go_simp;with_reducible rfl);rotate_left;(simp only [Act.put,aA,aB,aC,i64_w,i32_w];rfl);refine done_ (done_of HT_.out (by kernel_rfl)) ?_
                try go_wp2
                go_meet
                case rel=>exact ⟨_,H',⟨by have:=HJ8.out;have:=HJ27.out;first|omega|exact Nat.le_refl _⟩,⟨by repeat (with_reducible first|exact HB.out|apply Qc|apply Qa|apply Qb)⟩⟩
             ·replace c42:=Bool.eq_false_iff.mpr c42;subst c42;have H1:(some false)=some r:=by rw [if_neg (show ¬ (false=true) by decide)] at H;exact H
              clear H;have H:=H1;clear H1
              as_aux_lemma=>
               obtain rfl:=Option.some.inj H
               try go_wp2
               have n0_:=aM (Kd.R_drew HO_5.out);have n1_:=aM (Kd.R_drew HO_6.out);have n2_:=aM (Kd.R_drew HO_12.out);have n3_:=aM (Qb HB.out);clear HO_5 HO_6 HO_12 HB;have HO_5:=n0_;have HO_6:=n1_;have HO_12:=n2_;have HB:=n3_;clear n0_ n1_ n2_ n3_;refine start_ (n:=20) (S:=fun w'=>True) (ds:=[]) (bz 20 0) (by kernel_rfl) rfl rfl trivial (fun hHeld=>?_);refine with_tabW laws_FnRanks.tab16 laws_FnRanks.bits16 (fun HT_ HW_=>?_)
               generalize wc.drew=w48 at HO_5 HO_6 HO_12 HB hHeld ⊢
               refine pure_ (i:=0) (N:=some 131) (v:=?_) (a':=?_) (bz 20 1) rfl rfl (any_of HT_.out (by kernel_rfl)) (fun _ _ _ h=>h) (Or.inl ⟨by rfl,?_⟩) ?_ ?_;rotate_left;(intro w';go_simp;with_reducible rfl);rotate_left;(simp only [Act.put,aA,aB,aC,i64_w,i32_w];rfl);refine pure_ (i:=1) (N:=some 132) (v:=?_) (a':=?_) (bz 20 3) rfl rfl (any_of HT_.out (by kernel_rfl)) (fun _ _ _ h=>h) (Or.inl ⟨by rfl,?_⟩) ?_ ?_;rotate_left;(intro w';go_simp;with_reducible rfl);rotate_left;(simp only [Act.put,aA,aB,aC,i64_w,i32_w];rfl);refine pure_ (i:=2) (N:=some 133) (v:=?_) (a':=?_) (bz 20 7) rfl rfl (any_of HT_.out (by kernel_rfl)) (fun _ _ _ h=>h) (Or.inl ⟨by rfl,?_⟩) ?_ ?_;rotate_left;(intro w';go_simp;with_reducible rfl);rotate_left;(simp only [Act.put,aA,aB,aC,i64_w,i32_w];rfl);refine pure_ (i:=3) (N:=some 134) (v:=?_) (a':=?_) (bz 20 15) rfl rfl (any_of HT_.out (by kernel_rfl)) (fun _ _ _ h=>h) (Or.inl ⟨by rfl,?_⟩) ?_ ?_;rotate_left;(intro w';go_simp;with_reducible rfl);rotate_left;(simp only [Act.put,aA,aB,aC,i64_w,i32_w];rfl);refine pure_ (i:=5) (N:=some 136) (v:=?_) (a':=?_) (bz 20 47) rfl rfl (any_of HT_.out (by kernel_rfl)) (fun _ _ _ h=>h) (Or.inl ⟨by rfl,?_⟩) ?_ ?_;rotate_left;(intro w';go_simp;with_reducible rfl);rotate_left;(simp only [Act.put,aA,aB,aC,i64_w,i32_w];rfl);refine pure_ (i:=6) (N:=some 137) (v:=?_) (a':=?_) (bz 20 111) rfl rfl (any_of HT_.out (by kernel_rfl)) (fun _ _ _ h=>h) (Or.inl ⟨by rfl,?_⟩) ?_ ?_;rotate_left;(intro w';go_simp;with_reducible rfl);rotate_left;(simp only [Act.put,aA,aB,aC,i64_w,i32_w];rfl);refine pure_ (i:=8) (N:=some 139) (v:=?_) (a':=?_) (bz 20 367) rfl rfl (any_of HT_.out (by kernel_rfl)) (fun _ _ _ h=>h) (Or.inl ⟨by rfl,?_⟩) ?_ ?_;rotate_left;(intro w';go_simp;with_reducible rfl);rotate_left;(simp only [Act.put,aA,aB,aC,i64_w,i32_w];rfl);refine pure_ (i:=11) (N:=some 142) (v:=?_) (a':=?_) (bz 20 2415) rfl rfl (any_of HT_.out (by kernel_rfl)) (fun _ _ _ h=>h) (Or.inl ⟨by rfl,?_⟩) ?_ ?_;rotate_left;(intro w';go_simp;with_reducible rfl);rotate_left;(simp only [Act.put,aA,aB,aC,i64_w,i32_w];rfl);refine pure_ (i:=12) (N:=some 143) (v:=?_) (a':=?_) (bz 20 6511) rfl rfl (any_of HT_.out (by kernel_rfl)) (fun _ _ _ h=>h) (Or.inl ⟨by rfl,?_⟩) ?_ ?_;rotate_left;(intro w';go_simp;with_reducible rfl);rotate_left;(simp only [Act.put,aA,aB,aC,i64_w,i32_w];rfl);refine one_ (i:=4) (N:=some 135) (bz 20 6527) rfl rfl (one_of HT_.out (by kernel_rfl)) (by decide) (fun K hK=>?_)
               first|(refine goes_ Try.func32 (by kernel_rfl) rfl #[.slice A1 l1.length c1] (by rfl) rfl rfl (by (try simp only [aD,aE,aF]);first|done|rfl|(simp only [aG,aH];rfl)) ?_)|(refine call_ 32 #[.slice A1 l1.length c1] (by rfl) rfl (by unfold execOp;simp [resolve,Deferred.ofValue,invoke,Act.eval,enters_ Try.func32 (by kernel_rfl) rfl]) ?_)
               with_reducible refine (laws_numberOf.calls kj27 _ _ l1 t127 _ ?side1 ?side2 A38.out).mono ?_
               (case side1=>repeat first|exact (Kd.C_below HR1.out HB.out)|(with_reducible first|refine Kd.Qh ?_ _|refine Kd.Qi ?_ _|refine Kd.C_drew ?_))
               (case side2=>exact HC1.out)
               rintro e w' ⟨rfl,⟨nd,rfl⟩⟩
               refine ⟨_,rfl,?_⟩;refine hK.out _ _ trivial (fun hHeld=>?_);clear hK K;refine norm_ (a':=?_) ?_ ?_
               rotate_left
               ·show Act.put _ (some 135) _=_
                simp only [Act.put,aA,aB,aC,i64_w,i32_w]
                rfl
               refine pure_ (i:=7) (N:=some 138) (v:=?_) (a':=?_) (bz 20 6655) rfl rfl (any_of HT_.out (by kernel_rfl)) (fun _ _ _ h=>h) (Or.inl ⟨by rfl,?_⟩) ?_ ?_;rotate_left;(intro w';go_simp;with_reducible rfl);rotate_left;(simp only [Act.put,aA,aB,aC,i64_w,i32_w];rfl);refine one_ (i:=9) (N:=some 140) (bz 20 7167) rfl rfl (one_of HT_.out (by kernel_rfl)) (by decide) (fun K hK=>?_)
               first|(refine goes_ Try.func32 (by kernel_rfl) rfl #[.slice A1 l1.length c1] (by rfl) rfl rfl (by (try simp only [aD,aE,aF]);first|done|rfl|(simp only [aG,aH];rfl)) ?_)|(refine call_ 32 #[.slice A1 l1.length c1] (by rfl) rfl (by unfold execOp;simp [resolve,Deferred.ofValue,invoke,Act.eval,enters_ Try.func32 (by kernel_rfl) rfl]) ?_)
               with_reducible refine (laws_numberOf.calls kj27 _ _ l1 t128 _ ?side1 ?side2 A40.out).mono ?_
               (case side1=>repeat first|exact (Kd.C_below HR1.out (by repeat (with_reducible first|exact HB.out|apply Qc|apply Qa|apply Qb)))|(with_reducible first|refine Kd.Qh ?_ _|refine Kd.Qi ?_ _|refine Kd.C_drew ?_))
               (case side2=>exact HC1.out)
               rintro e w' ⟨rfl,⟨nd,rfl⟩⟩
               refine ⟨_,rfl,?_⟩;refine hK.out _ _ trivial (fun hHeld=>?_);clear hK K;refine norm_ (a':=?_) ?_ ?_
               rotate_left
               ·show Act.put _ (some 140) _=_
                simp only [Act.put,aA,aB,aC,i64_w,i32_w]
                rfl
               refine pure_ (i:=10) (N:=some 141) (v:=?_) (a':=?_) (bz 20 8191) rfl rfl (any_of HT_.out (by kernel_rfl)) (fun _ _ _ h=>h) (Or.inl ⟨by rfl,?_⟩) ?_ ?_;rotate_left;(intro w';go_simp;with_reducible rfl);rotate_left;(simp only [Act.put,aA,aB,aC,i64_w,i32_w];rfl);refine pure_ (i:=13) (N:=some 144) (v:=?_) (a':=?_) (bz 20 16383) rfl rfl (any_of HT_.out (by kernel_rfl)) (fun _ _ _ h=>h) (Or.inl ⟨by rfl,?_⟩) ?_ ?_;rotate_left;(intro w';go_simp;with_reducible rfl);rotate_left;(simp only [Act.put,aA,aB,aC,i64_w,i32_w];rfl);refine one_ (i:=14) (N:=some 145) (bz 20 32767) rfl rfl (one_of HT_.out (by kernel_rfl)) (by decide) (fun K hK=>?_)
               first|(refine goes_ Try.func70 (by kernel_rfl) rfl #[.slice Ao11 t101.length co11,.slice Ao12 t102.length co12,.slice Ao29 t114.length co29,.int .i64 (Int.tmod t127 (t101.length:Int)),.int .i64 (Int.tmod (wrap64 (Int.tdiv t128 11)) (t101.length:Int))] (by rfl) rfl rfl (by (try simp only [aD,aE,aF]);first|done|rfl|(simp only [aG,aH];rfl)) ?_)|(refine call_ 70 #[.slice Ao11 t101.length co11,.slice Ao12 t102.length co12,.slice Ao29 t114.length co29,.int .i64 (Int.tmod t127 (t101.length:Int)),.int .i64 (Int.tmod (wrap64 (Int.tdiv t128 11)) (t101.length:Int))] (by rfl) rfl (by unfold execOp;simp [resolve,Deferred.ofValue,invoke,Act.eval,enters_ Try.func70 (by kernel_rfl) rfl]) ?_)
               with_reducible refine (impl_SwapGain.calls kj27 _ _ t101 _ _ t102 _ _ t114 (Int.tmod t127 (t101.length:Int)) (Int.tmod (wrap64 (Int.tdiv t128 11)) (t101.length:Int)) t129 false _ ?side1 ?side2 ?side3 ?side4 ?side5 ?side6 A41.out).mono ?_
               (case side1=>repeat first|exact (Kd.Qg HO_5.out).2.2|(with_reducible first|refine Kd.Qh ?_ _|refine Kd.Qi ?_ _|refine Kd.C_drew ?_))
               (case side2=>exact (Kd.Qg HO_5.out).2.1)
               (case side3=>repeat first|exact (Kd.Qg HO_6.out).2.2|(with_reducible first|refine Kd.Qh ?_ _|refine Kd.Qi ?_ _|refine Kd.C_drew ?_))
               (case side4=>exact (Kd.Qg HO_6.out).2.1)
               (case side5=>repeat first|exact (Kd.Qg HO_12.out).2.2|(with_reducible first|refine Kd.Qh ?_ _|refine Kd.Qi ?_ _|refine Kd.C_drew ?_))
               (case side6=>exact (Kd.Qg HO_12.out).2.1)
               rintro e w49 ⟨rfl,hb⟩
               refine ⟨_,rfl,?_⟩;have n0_:=aM (Kd.R_below (by (with_reducible repeat first|apply Kd.Qd|apply Kd.Qe|apply Kd.R_drew);exact HO_5.out) hb);have n1_:=aM (Kd.R_below (by (with_reducible repeat first|apply Kd.Qd|apply Kd.Qe|apply Kd.R_drew);exact HO_6.out) hb);have n2_:=aM (Kd.R_below (by (with_reducible repeat first|apply Kd.Qd|apply Kd.Qe|apply Kd.R_drew);exact HO_12.out) hb);have n3_:=aM (Qo (by repeat (with_reducible first|exact HB.out|apply Qc|apply Qa|apply Qb)) hb);clear HO_5 HO_6 HO_12 HB;have HO_5:=n0_;have HO_6:=n1_;have HO_12:=n2_;have HB:=n3_;clear n0_ n1_ n2_ n3_;(try clear hb);(try clear hb2);(try clear hk);(try clear hi);refine hK.out _ _ trivial (fun hHeld=>?_);clear hK K;refine norm_ (a':=?_) ?_ ?_
               rotate_left
               ·show Act.put _ (some 145) _=_
                simp only [Act.put,aA,aB,aC,i64_w,i32_w]
                rfl
               refine pure_ (i:=15) (N:=some 130) (v:=?_) (a':=?_) (bz 20 65535) rfl rfl (any_of HT_.out (by kernel_rfl)) (fun _ _ _ h=>h) (Or.inl ⟨by rfl,?_⟩) ?_ ?_;rotate_left;(intro w';go_simp;with_reducible rfl);rotate_left;(simp only [Act.put,aA,aB,aC,i64_w,i32_w];rfl);refine pure_ (i:=16) (N:=some 146) (v:=?_) (a':=?_) (bz 20 131071) rfl rfl (any_of HT_.out (by kernel_rfl)) (fun _ _ _ h=>h) (Or.inl ⟨by rfl,?_⟩) ?_ ?_;rotate_left;(intro w';go_simp;with_reducible rfl);rotate_left;(simp only [Act.put,aA,aB,aC,i64_w,i32_w];rfl);refine pure_ (i:=17) (N:=some 147) (v:=?_) (a':=?_) (bz 20 262143) rfl rfl (any_of HT_.out (by kernel_rfl)) (fun _ _ _ h=>h) (Or.inl ⟨by rfl,?_⟩) ?_ ?_;rotate_left;(intro w';go_simp;with_reducible rfl);rotate_left;(simp only [Act.put,aA,aB,aC,i64_w,i32_w];rfl);refine pure_ (i:=18) (N:=some 20) (v:=?_) (a':=?_) (bz 20 524287) rfl rfl (any_of HT_.out (by kernel_rfl)) (fun _ _ _ h=>h) (Or.inl ⟨by rfl,?_⟩) ?_ ?_;rotate_left;(intro w';go_simp;with_reducible rfl);rotate_left;(simp only [Act.put,aA,aB,aC,i64_w,i32_w];rfl);refine pure_ (i:=19) (N:=some 21) (v:=?_) (a':=?_) (bz 20 1048575) rfl rfl (any_of HT_.out (by kernel_rfl)) (fun _ _ _ h=>h) (Or.inl ⟨by rfl,?_⟩) ?_ ?_;rotate_left;(intro w';go_simp;with_reducible rfl);rotate_left;(simp only [Act.put,aA,aB,aC,i64_w,i32_w];rfl);refine done_ (done_of HT_.out (by kernel_rfl)) ?_
               try go_wp2
               go_ret
               exact ⟨by first|rfl|(simp [errW_none,errW_some] <;> rfl)|(simp [*,errW_none,errW_some] <;> rfl),by repeat (with_reducible first|exact HB.out|apply Qc|apply Qa|apply Qb)⟩
           ·rw [if_neg c37] at H;have c37b0:decide (0<(t101.length:Int))=false:=aN c37;have c37b1:decide (0<t101.length)=false:=aN (by omega);clear c37
            as_aux_lemma=>
             have H':=aM H;clear H;go_wp2
             go_meet
             case rel=>exact ⟨_,H',⟨by have:=HJ8.out;have:=HJ27.out;first|omega|exact Nat.le_refl _⟩,⟨by repeat (with_reducible first|exact HB.out|apply Qc|apply Qa|apply Qb)⟩⟩
       ·replace c25:=Bool.eq_false_iff.mpr c25;subst c25;have H1:(laws_FnRanks.j2 kj8 l1)=some r:=by rw [if_neg (show ¬ (false=true) by decide)] at H;exact H
        clear H;have H:=H1;clear H1
        as_aux_lemma=>
         have H':=aM H;clear H;go_wp2
         go_meet
         case rel=>exact ⟨_,H',⟨by have:=HJ8.out;first|omega|exact Nat.le_refl _⟩,⟨by repeat (with_reducible first|exact HB.out|apply Qc|apply Qa|apply Qb)⟩⟩
      case rest=>
       clear HC24;(try clear c1);(try clear c2);(try clear p2);(try clear c3);(try clear c4);(try clear p6);(try clear c7);(try clear c25);(try clear c32);(try clear c37);(try clear c37b0);(try clear c37b1);(try clear c42);(try clear c43);(try clear c43b0);obtain ⟨kq,HA,HJ23,HB⟩:=hcut
       cases kq with
       |zero=>exact absurd HA.out (by simp [laws_FnRanks.j2])
       |succ kj23=>
        have H:=HA.out;clear HA;simp only [laws_FnRanks.j2] at H;replace H:=Option.bind_eq_some_iff.mp H;obtain ⟨⟨t131,t132⟩,A500,H⟩:=H;replace H:((impl_PairCost.f kj23 t131 t132).bind fun bt137=>((spec_PairCost.f kj23 t131 t132).bind fun bt139=>((spec_DrawSwapGain.f kj23 l1).bind fun bt141=>((impl_SwapGain.f kj23 bt141.1 bt141.2.1 bt141.2.2.1 bt141.2.2.2.1 bt141.2.2.2.2).bind fun bt152=>((spec_SwapGain.f kj23 bt141.1 bt141.2.1 bt141.2.2.1 bt141.2.2.2.1 bt141.2.2.2.2).bind fun bt154=>(if (bt137.2 != bt139.2)=true then (laws_FnRanks.j3 kj23 bt141.1 bt141.2.1 bt141.2.2.1 bt141.2.2.2.1 bt141.2.2.2.2 bt152.1 bt152.2 true) else (if bt137.1=bt139.1 then (if (bt152.2 != bt154.2)=true then (laws_FnRanks.j3 kj23 bt141.1 bt141.2.1 bt141.2.2.1 bt141.2.2.2.1 bt141.2.2.2.2 bt152.1 bt152.2 true) else (laws_FnRanks.j3 kj23 bt141.1 bt141.2.1 bt141.2.2.1 bt141.2.2.2.1 bt141.2.2.2.2 bt152.1 bt152.2 (bt152.1 != bt154.1))) else (laws_FnRanks.j3 kj23 bt141.1 bt141.2.1 bt141.2.2.1 bt141.2.2.2.1 bt141.2.2.2.2 bt152.1 bt152.2 true))))))))=some r:=H;have A50:=aM A500;clear A500;replace H:=Option.bind_eq_some_iff.mp H;obtain ⟨⟨t137,t138⟩,A510,H⟩:=H;replace H:((spec_PairCost.f kj23 t131 t132).bind fun bt139=>((spec_DrawSwapGain.f kj23 l1).bind fun bt141=>((impl_SwapGain.f kj23 bt141.1 bt141.2.1 bt141.2.2.1 bt141.2.2.2.1 bt141.2.2.2.2).bind fun bt152=>((spec_SwapGain.f kj23 bt141.1 bt141.2.1 bt141.2.2.1 bt141.2.2.2.1 bt141.2.2.2.2).bind fun bt154=>(if (t138 != bt139.2)=true then (laws_FnRanks.j3 kj23 bt141.1 bt141.2.1 bt141.2.2.1 bt141.2.2.2.1 bt141.2.2.2.2 bt152.1 bt152.2 true) else (if t137=bt139.1 then (if (bt152.2 != bt154.2)=true then (laws_FnRanks.j3 kj23 bt141.1 bt141.2.1 bt141.2.2.1 bt141.2.2.2.1 bt141.2.2.2.2 bt152.1 bt152.2 true) else (laws_FnRanks.j3 kj23 bt141.1 bt141.2.1 bt141.2.2.1 bt141.2.2.2.1 bt141.2.2.2.2 bt152.1 bt152.2 (bt152.1 != bt154.1))) else (laws_FnRanks.j3 kj23 bt141.1 bt141.2.1 bt141.2.2.1 bt141.2.2.2.1 bt141.2.2.2.2 bt152.1 bt152.2 true)))))))=some r:=H;have A51:=aM A510;clear A510;replace H:=Option.bind_eq_some_iff.mp H;obtain ⟨⟨t139,t140⟩,A520,H⟩:=H;replace H:((spec_DrawSwapGain.f kj23 l1).bind fun bt141=>((impl_SwapGain.f kj23 bt141.1 bt141.2.1 bt141.2.2.1 bt141.2.2.2.1 bt141.2.2.2.2).bind fun bt152=>((spec_SwapGain.f kj23 bt141.1 bt141.2.1 bt141.2.2.1 bt141.2.2.2.1 bt141.2.2.2.2).bind fun bt154=>(if (t138 != t140)=true then (laws_FnRanks.j3 kj23 bt141.1 bt141.2.1 bt141.2.2.1 bt141.2.2.2.1 bt141.2.2.2.2 bt152.1 bt152.2 true) else (if t137=t139 then (if (bt152.2 != bt154.2)=true then (laws_FnRanks.j3 kj23 bt141.1 bt141.2.1 bt141.2.2.1 bt141.2.2.2.1 bt141.2.2.2.2 bt152.1 bt152.2 true) else (laws_FnRanks.j3 kj23 bt141.1 bt141.2.1 bt141.2.2.1 bt141.2.2.2.1 bt141.2.2.2.2 bt152.1 bt152.2 (bt152.1 != bt154.1))) else (laws_FnRanks.j3 kj23 bt141.1 bt141.2.1 bt141.2.2.1 bt141.2.2.2.1 bt141.2.2.2.2 bt152.1 bt152.2 true))))))=some r:=H;have A52:=aM A520;clear A520;replace H:=Option.bind_eq_some_iff.mp H;obtain ⟨⟨t141,t142,t143,t144,t145⟩,A530,H⟩:=H;replace H:((impl_SwapGain.f kj23 t141 t142 t143 t144 t145).bind fun bt152=>((spec_SwapGain.f kj23 t141 t142 t143 t144 t145).bind fun bt154=>(if (t138 != t140)=true then (laws_FnRanks.j3 kj23 t141 t142 t143 t144 t145 bt152.1 bt152.2 true) else (if t137=t139 then (if (bt152.2 != bt154.2)=true then (laws_FnRanks.j3 kj23 t141 t142 t143 t144 t145 bt152.1 bt152.2 true) else (laws_FnRanks.j3 kj23 t141 t142 t143 t144 t145 bt152.1 bt152.2 (bt152.1 != bt154.1))) else (laws_FnRanks.j3 kj23 t141 t142 t143 t144 t145 bt152.1 bt152.2 true)))))=some r:=H;have A53:=aM A530;clear A530;replace H:=Option.bind_eq_some_iff.mp H;obtain ⟨⟨t152,t153⟩,A540,H⟩:=H;replace H:((spec_SwapGain.f kj23 t141 t142 t143 t144 t145).bind fun bt154=>(if (t138 != t140)=true then (laws_FnRanks.j3 kj23 t141 t142 t143 t144 t145 t152 t153 true) else (if t137=t139 then (if (t153 != bt154.2)=true then (laws_FnRanks.j3 kj23 t141 t142 t143 t144 t145 t152 t153 true) else (laws_FnRanks.j3 kj23 t141 t142 t143 t144 t145 t152 t153 (t152 != bt154.1))) else (laws_FnRanks.j3 kj23 t141 t142 t143 t144 t145 t152 t153 true))))=some r:=H;have A54:=aM A540;clear A540;replace H:=Option.bind_eq_some_iff.mp H;obtain ⟨⟨t154,t155⟩,A550,H⟩:=H;replace H:(if (t138 != t140)=true then (laws_FnRanks.j3 kj23 t141 t142 t143 t144 t145 t152 t153 true) else (if t137=t139 then (if (t153 != t155)=true then (laws_FnRanks.j3 kj23 t141 t142 t143 t144 t145 t152 t153 true) else (laws_FnRanks.j3 kj23 t141 t142 t143 t144 t145 t152 t153 (t152 != t154))) else (laws_FnRanks.j3 kj23 t141 t142 t143 t144 t145 t152 t153 true)))=some r:=H;have A55:=aM A550;clear A550;have HC56:=aM H;clear H
        go_upto_region 25 with (first|((with_reducible refine Qj (f:=71) rfl ?_);refine goesL_ (some 156) rfl rfl Try.func71 (by kernel_rfl) rfl #[.slice A1 l1.length c1] rfl (by (try simp only [aD,aE,aF]);first|done|rfl|(simp only [aG,aH];rfl)) ?_;(with_reducible refine (spec_DrawPairCost.calls kj23 _ _ l1 t131 t132 _ ?side1 ?side2 A50.out).mono ?_);(case side1=>repeat first|exact (Kd.C_below HR1.out HB.out)|(with_reducible first|refine Kd.Qh ?_ _|refine Kd.Qi ?_ _|refine Kd.C_drew ?_));(case side2=>exact HC1.out);rintro e w57 ⟨v133,v135,rfl,ho0,ho1,hb⟩;refine ⟨_,rfl,?_⟩;have n0_:=aM (Kd.R_lower ho0 (Qn (by repeat (with_reducible first|exact HB.out|apply Qc|apply Qa|apply Qb))));have n1_:=aM (Kd.R_lower ho1 (Qn (by repeat (with_reducible first|exact HB.out|apply Qc|apply Qa|apply Qb))));have n2_:=aM (Qo (by repeat (with_reducible first|exact HB.out|apply Qc|apply Qa|apply Qb)) hb);clear HB;have HO134:=n0_;have HO136:=n1_;have HB:=n2_;clear n0_ n1_ n2_;(try clear hb);(try clear hb2);(try clear hk);(try clear hi);(try clear ho0);(try clear ho1);obtain ⟨Ao58,co58,eo58⟩:=Kd.R_slice HO134.out;subst eo58;obtain ⟨Ao59,co59,eo59⟩:=Kd.R_slice HO136.out;subst eo59)|((with_reducible refine Qj (f:=72) rfl ?_);refine goesL_ (some 162) rfl rfl Try.func72 (by kernel_rfl) rfl #[.slice Ao58 t131.length co58,.slice Ao59 t132.length co59] rfl (by (try simp only [aD,aE,aF]);first|done|rfl|(simp only [aG,aH];rfl)) ?_;(with_reducible refine (impl_PairCost.calls kj23 _ _ t131 _ _ t132 t137 t138 _ ?side1 ?side2 ?side3 ?side4 A51.out).mono ?_);(case side1=>repeat first|exact (Kd.Qg HO134.out).2.2|(with_reducible first|refine Kd.Qh ?_ _|refine Kd.Qi ?_ _|refine Kd.C_drew ?_));(case side2=>exact (Kd.Qg HO134.out).2.1);(case side3=>repeat first|exact (Kd.Qg HO136.out).2.2|(with_reducible first|refine Kd.Qh ?_ _|refine Kd.Qi ?_ _|refine Kd.C_drew ?_));(case side4=>exact (Kd.Qg HO136.out).2.1);rintro e w60 ⟨rfl,hb⟩;refine ⟨_,rfl,?_⟩;have n0_:=aM (Kd.R_below (by (with_reducible repeat first|apply Kd.Qd|apply Kd.Qe|apply Kd.R_drew);exact HO134.out) hb);have n1_:=aM (Kd.R_below (by (with_reducible repeat first|apply Kd.Qd|apply Kd.Qe|apply Kd.R_drew);exact HO136.out) hb);have n2_:=aM (Qo (by repeat (with_reducible first|exact HB.out|apply Qc|apply Qa|apply Qb)) hb);clear HO134 HO136 HB;have HO134:=n0_;have HO136:=n1_;have HB:=n2_;clear n0_ n1_ n2_ hb)|((with_reducible refine Qj (f:=73) rfl ?_);refine goesL_ (some 168) rfl rfl Try.func73 (by kernel_rfl) rfl #[.slice Ao58 t131.length co58,.slice Ao59 t132.length co59] rfl (by (try simp only [aD,aE,aF]);first|done|rfl|(simp only [aG,aH];rfl)) ?_;(with_reducible refine (spec_PairCost.calls kj23 _ _ t131 _ _ t132 t139 t140 _ ?side1 ?side2 ?side3 ?side4 A52.out).mono ?_);(case side1=>repeat first|exact (Kd.Qg HO134.out).2.2|(with_reducible first|refine Kd.Qh ?_ _|refine Kd.Qi ?_ _|refine Kd.C_drew ?_));(case side2=>exact (Kd.Qg HO134.out).2.1);(case side3=>repeat first|exact (Kd.Qg HO136.out).2.2|(with_reducible first|refine Kd.Qh ?_ _|refine Kd.Qi ?_ _|refine Kd.C_drew ?_));(case side4=>exact (Kd.Qg HO136.out).2.1);rintro e w' ⟨rfl,⟨nd,rfl⟩⟩;refine ⟨_,rfl,?_⟩)|((with_reducible refine Qj (f:=74) rfl ?_);refine goesL_ (some 173) rfl rfl Try.func74 (by kernel_rfl) rfl #[.slice A1 l1.length c1] rfl (by (try simp only [aD,aE,aF]);first|done|rfl|(simp only [aG,aH];rfl)) ?_;(with_reducible refine (spec_DrawSwapGain.calls kj23 _ _ l1 t141 t142 t143 t144 t145 _ ?side1 ?side2 A53.out).mono ?_);(case side1=>repeat first|exact (Kd.C_below HR1.out (by repeat (with_reducible first|exact HB.out|apply Qc|apply Qa|apply Qb)))|(with_reducible first|refine Kd.Qh ?_ _|refine Kd.Qi ?_ _|refine Kd.C_drew ?_));(case side2=>exact HC1.out);rintro e w61 ⟨v146,v148,v150,rfl,ho0,ho1,ho2,hb⟩;refine ⟨_,rfl,?_⟩;have n0_:=aM (Kd.R_mono (Kd.R_told (Kd.R_told (Kd.R_told (Kd.R_old (by (with_reducible repeat first|apply Kd.Qd|apply Kd.Qe|apply Kd.R_drew);exact HO134.out) hb) (Kd.R_base ho0)) (Kd.R_base ho1)) (Kd.R_base ho2)) (fun _ h_=>h_.1));have n1_:=aM (Kd.R_mono (Kd.R_told (Kd.R_told (Kd.R_told (Kd.R_old (by (with_reducible repeat first|apply Kd.Qd|apply Kd.Qe|apply Kd.R_drew);exact HO136.out) hb) (Kd.R_base ho0)) (Kd.R_base ho1)) (Kd.R_base ho2)) (fun _ h_=>h_.1));have n2_:=aM (Kd.R_lower (Kd.R_new' (Kd.R_new' ho0 (Kd.R_lt (by (with_reducible repeat first|apply Kd.Qd|apply Kd.Qe|apply Kd.R_drew);exact HO134.out))) (Kd.R_lt (by (with_reducible repeat first|apply Kd.Qd|apply Kd.Qe|apply Kd.R_drew);exact HO136.out))) (Qn (by repeat (with_reducible first|exact HB.out|apply Qc|apply Qa|apply Qb))));have n3_:=aM (Kd.R_lower (Kd.R_new' (Kd.R_new' ho1 (Kd.R_lt (by (with_reducible repeat first|apply Kd.Qd|apply Kd.Qe|apply Kd.R_drew);exact HO134.out))) (Kd.R_lt (by (with_reducible repeat first|apply Kd.Qd|apply Kd.Qe|apply Kd.R_drew);exact HO136.out))) (Qn (by repeat (with_reducible first|exact HB.out|apply Qc|apply Qa|apply Qb))));have n4_:=aM (Kd.R_lower (Kd.R_new' (Kd.R_new' ho2 (Kd.R_lt (by (with_reducible repeat first|apply Kd.Qd|apply Kd.Qe|apply Kd.R_drew);exact HO134.out))) (Kd.R_lt (by (with_reducible repeat first|apply Kd.Qd|apply Kd.Qe|apply Kd.R_drew);exact HO136.out))) (Qn (by repeat (with_reducible first|exact HB.out|apply Qc|apply Qa|apply Qb))));have n5_:=aM (Qo (by repeat (with_reducible first|exact HB.out|apply Qc|apply Qa|apply Qb)) hb);clear HO134 HO136 HB;have HO134:=n0_;have HO136:=n1_;have HO147:=n2_;have HO149:=n3_;have HO151:=n4_;have HB:=n5_;clear n0_ n1_ n2_ n3_ n4_ n5_;(try clear hb);(try clear hb2);(try clear hk);(try clear hi);(try clear ho0);(try clear ho1);(try clear ho2);obtain ⟨Ao62,co62,eo62⟩:=Kd.R_slice HO147.out;subst eo62;obtain ⟨Ao63,co63,eo63⟩:=Kd.R_slice HO149.out;subst eo63;obtain ⟨Ao64,co64,eo64⟩:=Kd.R_slice HO151.out;subst eo64)|((with_reducible refine Qj (f:=70) rfl ?_);refine goesL_ (some 185) rfl rfl Try.func70 (by kernel_rfl) rfl #[.slice Ao62 t141.length co62,.slice Ao63 t142.length co63,.slice Ao64 t143.length co64,.int .i64 t144,.int .i64 t145] rfl (by (try simp only [aD,aE,aF]);first|done|rfl|(simp only [aG,aH];rfl)) ?_;(with_reducible refine (impl_SwapGain.calls kj23 _ _ t141 _ _ t142 _ _ t143 t144 t145 t152 t153 _ ?side1 ?side2 ?side3 ?side4 ?side5 ?side6 A54.out).mono ?_);(case side1=>repeat first|exact (Kd.Qg HO147.out).2.2|(with_reducible first|refine Kd.Qh ?_ _|refine Kd.Qi ?_ _|refine Kd.C_drew ?_));(case side2=>exact (Kd.Qg HO147.out).2.1);(case side3=>repeat first|exact (Kd.Qg HO149.out).2.2|(with_reducible first|refine Kd.Qh ?_ _|refine Kd.Qi ?_ _|refine Kd.C_drew ?_));(case side4=>exact (Kd.Qg HO149.out).2.1);(case side5=>repeat first|exact (Kd.Qg HO151.out).2.2|(with_reducible first|refine Kd.Qh ?_ _|refine Kd.Qi ?_ _|refine Kd.C_drew ?_));(case side6=>exact (Kd.Qg HO151.out).2.1);rintro e w65 ⟨rfl,hb⟩;refine ⟨_,rfl,?_⟩;have n0_:=aM (Kd.R_below (by (with_reducible repeat first|apply Kd.Qd|apply Kd.Qe|apply Kd.R_drew);exact HO134.out) hb);have n1_:=aM (Kd.R_below (by (with_reducible repeat first|apply Kd.Qd|apply Kd.Qe|apply Kd.R_drew);exact HO136.out) hb);have n2_:=aM (Kd.R_below (by (with_reducible repeat first|apply Kd.Qd|apply Kd.Qe|apply Kd.R_drew);exact HO147.out) hb);have n3_:=aM (Kd.R_below (by (with_reducible repeat first|apply Kd.Qd|apply Kd.Qe|apply Kd.R_drew);exact HO149.out) hb);have n4_:=aM (Kd.R_below (by (with_reducible repeat first|apply Kd.Qd|apply Kd.Qe|apply Kd.R_drew);exact HO151.out) hb);have n5_:=aM (Qo (by repeat (with_reducible first|exact HB.out|apply Qc|apply Qa|apply Qb)) hb);clear HO134 HO136 HO147 HO149 HO151 HB;have HO134:=n0_;have HO136:=n1_;have HO147:=n2_;have HO149:=n3_;have HO151:=n4_;have HB:=n5_;clear n0_ n1_ n2_ n3_ n4_ n5_ hb)|((with_reducible refine Qj (f:=75) rfl ?_);refine goesL_ (some 194) rfl rfl Try.func75 (by kernel_rfl) rfl #[.slice Ao62 t141.length co62,.slice Ao63 t142.length co63,.slice Ao64 t143.length co64,.int .i64 t144,.int .i64 t145] rfl (by (try simp only [aD,aE,aF]);first|done|rfl|(simp only [aG,aH];rfl)) ?_;(with_reducible refine (spec_SwapGain.calls kj23 _ _ t141 _ _ t142 _ _ t143 t144 t145 t154 t155 _ ?side1 ?side2 ?side3 ?side4 ?side5 ?side6 A55.out).mono ?_);(case side1=>repeat first|exact (Kd.Qg HO147.out).2.2|(with_reducible first|refine Kd.Qh ?_ _|refine Kd.Qi ?_ _|refine Kd.C_drew ?_));(case side2=>exact (Kd.Qg HO147.out).2.1);(case side3=>repeat first|exact (Kd.Qg HO149.out).2.2|(with_reducible first|refine Kd.Qh ?_ _|refine Kd.Qi ?_ _|refine Kd.C_drew ?_));(case side4=>exact (Kd.Qg HO149.out).2.1);(case side5=>repeat first|exact (Kd.Qg HO151.out).2.2|(with_reducible first|refine Kd.Qh ?_ _|refine Kd.Qi ?_ _|refine Kd.C_drew ?_));(case side6=>exact (Kd.Qg HO151.out).2.1);rintro e w66 ⟨rfl,hb⟩;refine ⟨_,rfl,?_⟩;have n0_:=aM (Kd.R_below (by (with_reducible repeat first|apply Kd.Qd|apply Kd.Qe|apply Kd.R_drew);exact HO134.out) hb);have n1_:=aM (Kd.R_below (by (with_reducible repeat first|apply Kd.Qd|apply Kd.Qe|apply Kd.R_drew);exact HO136.out) hb);have n2_:=aM (Kd.R_below (by (with_reducible repeat first|apply Kd.Qd|apply Kd.Qe|apply Kd.R_drew);exact HO147.out) hb);have n3_:=aM (Kd.R_below (by (with_reducible repeat first|apply Kd.Qd|apply Kd.Qe|apply Kd.R_drew);exact HO149.out) hb);have n4_:=aM (Kd.R_below (by (with_reducible repeat first|apply Kd.Qd|apply Kd.Qe|apply Kd.R_drew);exact HO151.out) hb);have n5_:=aM (Qo (by repeat (with_reducible first|exact HB.out|apply Qc|apply Qa|apply Qb)) hb);clear HO134 HO136 HO147 HO149 HO151 HB;have HO134:=n0_;have HO136:=n1_;have HO147:=n2_;have HO149:=n3_;have HO151:=n4_;have HB:=n5_;clear n0_ n1_ n2_ n3_ n4_ n5_ hb))
        (try simp only [Act.put,aA,aB,aC])
        go_cut [214] (fun v214 wc=>∃ (kq:Nat) (x214_55:Bool),v214= .bool x214_55∧Aside0 (laws_FnRanks.j3 kq t141 t142 t143 t144 t145 t152 t153 x214_55=some r)∧Aside0 (kq≤kj23)∧Aside0 (Kd.R (Kd.int .i64) 3 wc w.heap.size (fun k_=>some k_≠((.slice Ao63 t142.length co63):Value).ownBlock∧some k_≠((.slice Ao64 t143.length co64):Value).ownBlock) (.slice Ao62 t141.length co62) t141)∧Aside0 (Kd.R (Kd.int .i64) 3 wc w.heap.size (fun k_=>some k_≠((.slice Ao62 t141.length co62):Value).ownBlock∧some k_≠((.slice Ao64 t143.length co64):Value).ownBlock) (.slice Ao63 t142.length co63) t142)∧Aside0 (Kd.R (Kd.int .i64) 3 wc w.heap.size (fun k_=>some k_≠((.slice Ao62 t141.length co62):Value).ownBlock∧some k_≠((.slice Ao63 t142.length co63):Value).ownBlock) (.slice Ao64 t143.length co64) t143)∧Aside0 (Below w.heap.size w wc))
        case first=>
         have H:=HC56.out;clear HC56;by_cases c67:(t138 != t140)=true
         ·rw [if_pos c67] at H;have c67b0:(t138 != t140)=true:=c67;(try (have c67b1:decide (t138=t140)=false:=by simpa using c67));(try (have c67b2:(t138 == t140)=false:=by simpa using c67));(try (have c67b3: ¬ (t138=t140):=by simpa using c67));clear c67
          (first|rw [c67b0]|(simp only [i64_w,i32_w];rw [c67b0])|skip)
          as_aux_lemma=>
           have H':=aM H;clear H;go_wp2
           go_meet
           case rel=>exact ⟨_,(true),(by first|rfl|(simp;done)|(simp [*];done)),H',⟨by have:=HJ8.out;have:=HJ23.out;first|omega|exact Nat.le_refl _⟩,⟨by (with_reducible repeat first|apply Kd.Qd|apply Kd.Qe|apply Kd.R_drew);exact Kd.R_mono HO147.out (fun _ hk=>⟨hk.1.1.1,hk.1.1.2⟩)⟩,⟨by (with_reducible repeat first|apply Kd.Qd|apply Kd.Qe|apply Kd.R_drew);exact Kd.R_mono HO149.out (fun _ hk=>⟨hk.1.1.1,hk.1.1.2⟩)⟩,⟨by (with_reducible repeat first|apply Kd.Qd|apply Kd.Qe|apply Kd.R_drew);exact Kd.R_mono HO151.out (fun _ hk=>⟨hk.1.1.1,hk.1.1.2⟩)⟩,⟨by repeat (with_reducible first|exact HB.out|apply Qc|apply Qa|apply Qb)⟩⟩
         ·rw [if_neg c67] at H;have c67b0:(t138 != t140)=false:=by simpa using c67
          (try (have c67b1:decide (t138=t140)=true:=by simpa using c67));(try (have c67b2:(t138 == t140)=true:=by simpa using c67));clear c67
          (first|rw [c67b0]|(simp only [i64_w,i32_w];rw [c67b0])|skip)
          by_cases c68:t137=t139
          ·rw [if_pos c68] at H;have c68b0:(t137 == t139)=true:=beq_iff_eq.mpr c68;have c68b1:(t137 != t139)=false:=bne_eq_false_iff_eq.mpr c68;clear c68;by_cases c69:(t153 != t155)=true
           ·rw [if_pos c69] at H;have c69b0:(t153 != t155)=true:=c69;(try (have c69b1:decide (t153=t155)=false:=by simpa using c69));(try (have c69b2:(t153 == t155)=false:=by simpa using c69));(try (have c69b3: ¬ (t153=t155):=by simpa using c69));clear c69
            as_aux_lemma=>
             have H':=aM H;clear H;go_wp2
             go_meet
             case rel=>exact ⟨_,(true),(by first|rfl|(simp;done)|(simp [*];done)),H',⟨by have:=HJ8.out;have:=HJ23.out;first|omega|exact Nat.le_refl _⟩,⟨by (with_reducible repeat first|apply Kd.Qd|apply Kd.Qe|apply Kd.R_drew);exact Kd.R_mono HO147.out (fun _ hk=>⟨hk.1.1.1,hk.1.1.2⟩)⟩,⟨by (with_reducible repeat first|apply Kd.Qd|apply Kd.Qe|apply Kd.R_drew);exact Kd.R_mono HO149.out (fun _ hk=>⟨hk.1.1.1,hk.1.1.2⟩)⟩,⟨by (with_reducible repeat first|apply Kd.Qd|apply Kd.Qe|apply Kd.R_drew);exact Kd.R_mono HO151.out (fun _ hk=>⟨hk.1.1.1,hk.1.1.2⟩)⟩,⟨by repeat (with_reducible first|exact HB.out|apply Qc|apply Qa|apply Qb)⟩⟩
           ·rw [if_neg c69] at H;have c69b0:(t153 != t155)=false:=by simpa using c69
            (try (have c69b1:decide (t153=t155)=true:=by simpa using c69));(try (have c69b2:(t153 == t155)=true:=by simpa using c69));clear c69
            as_aux_lemma=>
             have H':=aM H;clear H;go_wp2
             go_meet
             case rel=>exact ⟨_,((t152 != t154)),(by first|rfl|(simp;done)|(simp [*];done)),H',⟨by have:=HJ8.out;have:=HJ23.out;first|omega|exact Nat.le_refl _⟩,⟨by (with_reducible repeat first|apply Kd.Qd|apply Kd.Qe|apply Kd.R_drew);exact Kd.R_mono HO147.out (fun _ hk=>⟨hk.1.1.1,hk.1.1.2⟩)⟩,⟨by (with_reducible repeat first|apply Kd.Qd|apply Kd.Qe|apply Kd.R_drew);exact Kd.R_mono HO149.out (fun _ hk=>⟨hk.1.1.1,hk.1.1.2⟩)⟩,⟨by (with_reducible repeat first|apply Kd.Qd|apply Kd.Qe|apply Kd.R_drew);exact Kd.R_mono HO151.out (fun _ hk=>⟨hk.1.1.1,hk.1.1.2⟩)⟩,⟨by repeat (with_reducible first|exact HB.out|apply Qc|apply Qa|apply Qb)⟩⟩
          ·rw [if_neg c68] at H;have c68b0:(t137 == t139)=false:=beq_eq_false_iff_ne.mpr c68;have c68b1:(t137 != t139)=true:=bne_iff_ne.mpr c68
           as_aux_lemma=>
            have H':=aM H;clear H;go_wp2
            go_meet
            case rel=>exact ⟨_,(true),(by first|rfl|(simp;done)|(simp [*];done)),H',⟨by have:=HJ8.out;have:=HJ23.out;first|omega|exact Nat.le_refl _⟩,⟨by (with_reducible repeat first|apply Kd.Qd|apply Kd.Qe|apply Kd.R_drew);exact Kd.R_mono HO147.out (fun _ hk=>⟨hk.1.1.1,hk.1.1.2⟩)⟩,⟨by (with_reducible repeat first|apply Kd.Qd|apply Kd.Qe|apply Kd.R_drew);exact Kd.R_mono HO149.out (fun _ hk=>⟨hk.1.1.1,hk.1.1.2⟩)⟩,⟨by (with_reducible repeat first|apply Kd.Qd|apply Kd.Qe|apply Kd.R_drew);exact Kd.R_mono HO151.out (fun _ hk=>⟨hk.1.1.1,hk.1.1.2⟩)⟩,⟨by repeat (with_reducible first|exact HB.out|apply Qc|apply Qa|apply Qb)⟩⟩
        case rest=>
         clear HC56;(try clear c1);(try clear c2);(try clear p2);(try clear c3);(try clear c4);(try clear c6);(try clear p6);(try clear c7);(try clear c25);(try clear c32);(try clear c37);(try clear c37b0);(try clear c37b1);(try clear c42);(try clear c43);(try clear c43b0);(try clear p64);(try clear c67);(try clear c67b0);(try clear c67b1);(try clear c67b2);(try clear c68);(try clear c68b0);(try clear c68b1);(try clear c69);(try clear c69b0);(try clear c69b1);(try clear c69b2);(try clear p2);(try clear p6);obtain ⟨kq,x214_55,rfl,HA,HJ55,HO_28,HO_29,HO_30,HB⟩:=hcut
         cases kq with
         |zero=>exact absurd HA.out (by simp [laws_FnRanks.j3])
         |succ kj55=>
          have H:=HA.out;clear HA;simp only [laws_FnRanks.j3] at H;by_cases c70:x214_55=true
          ·subst c70;have H1:(some false)=some r:=by rw [if_pos rfl] at H;exact H
           clear H;have H:=H1;clear H1
           as_aux_lemma=>
            obtain rfl:=Option.some.inj H;go_wp2
            go_ret
            exact ⟨by first|rfl|(simp [errW_none,errW_some] <;> rfl)|(simp [*,errW_none,errW_some] <;> rfl),by repeat (with_reducible first|exact HB.out|apply Qc|apply Qa|apply Qb)⟩
          ·replace c70:=Bool.eq_false_iff.mpr c70;subst c70;have H1:(if t153=true then (if 0≤t144 then (if t144<(t143.length:Int) then (if 0≤(rd t143 t144) then (if (rd t143 t144)<(t141.length:Int) then (if 0≤t145 then (if t145<(t143.length:Int) then (if 0≤(rd t143 t145) then (if (rd t143 t145)<(t141.length:Int) then (if t144<(t142.length:Int) then (if t145<(t142.length:Int) then (some (t152 == (wrap64 ((wrap64 ((rd t141 (rd t143 t144)) - (rd t141 (rd t143 t145)))) * (wrap64 ((rd t142 t144) - (rd t142 t145))))))) else (none)) else (none)) else (none)) else (none)) else (none)) else (none)) else (none)) else (none)) else (none)) else (none)) else (some true))=some r:=by rw [if_neg (show ¬ (false=true) by decide)] at H;exact H
           clear H;have H:=H1;clear H1;by_cases c71:t153=true
           ·subst c71;have H1:(if 0≤t144 then (if t144<(t143.length:Int) then (if 0≤(rd t143 t144) then (if (rd t143 t144)<(t141.length:Int) then (if 0≤t145 then (if t145<(t143.length:Int) then (if 0≤(rd t143 t145) then (if (rd t143 t145)<(t141.length:Int) then (if t144<(t142.length:Int) then (if t145<(t142.length:Int) then (some (t152 == (wrap64 ((wrap64 ((rd t141 (rd t143 t144)) - (rd t141 (rd t143 t145)))) * (wrap64 ((rd t142 t144) - (rd t142 t145))))))) else (none)) else (none)) else (none)) else (none)) else (none)) else (none)) else (none)) else (none)) else (none)) else (none))=some r:=by rw [if_pos rfl] at H;exact H
            clear H;have H:=H1;clear H1;by_cases c72:0≤t144
            ·rw [if_pos c72] at H;have c72b0:decide (0≤t144)=true:=aL c72;clear c72;by_cases c73:t144<(t143.length:Int)
             ·rw [if_pos c73] at H;have c73b0:decide (t144<(t143.length:Int))=true:=aL c73;clear c73;by_cases c74:0≤(rd t143 t144)
              ·rw [if_pos c74] at H;have c74b0:decide (0≤(rd t143 t144))=true:=aL c74;clear c74;by_cases c75:(rd t143 t144)<(t141.length:Int)
               ·rw [if_pos c75] at H;have c75b0:decide ((rd t143 t144)<(t141.length:Int))=true:=aL c75;clear c75;by_cases c76:0≤t145
                ·rw [if_pos c76] at H;have c76b0:decide (0≤t145)=true:=aL c76;clear c76;by_cases c77:t145<(t143.length:Int)
                 ·rw [if_pos c77] at H;have c77b0:decide (t145<(t143.length:Int))=true:=aL c77;clear c77;by_cases c78:0≤(rd t143 t145)
                  ·rw [if_pos c78] at H;have c78b0:decide (0≤(rd t143 t145))=true:=aL c78;clear c78;by_cases c79:(rd t143 t145)<(t141.length:Int)
                   ·rw [if_pos c79] at H;have c79b0:decide ((rd t143 t145)<(t141.length:Int))=true:=aL c79;clear c79;by_cases c80:t144<(t142.length:Int)
                    ·rw [if_pos c80] at H;have c80b0:decide (t144<(t142.length:Int))=true:=aL c80;clear c80;by_cases c81:t145<(t142.length:Int)
                     ·rw [if_pos c81] at H;have c81b0:decide (t145<(t142.length:Int))=true:=aL c81;clear c81
                      as_aux_lemma=>
                       obtain rfl:=Option.some.inj H
                       try go_wp2
                       have n0_:=aM (Kd.R_drew HO_28.out);have n1_:=aM (Kd.R_drew HO_29.out);have n2_:=aM (Kd.R_drew HO_30.out);have n3_:=aM (Qb HB.out);clear HO_28 HO_29 HO_30 HB;have HO_28:=n0_;have HO_29:=n1_;have HO_30:=n2_;have HB:=n3_;clear n0_ n1_ n2_ n3_;have p156:0≤(t144:Int):=aK (by first|(with_reducible assumption)|assumption);have q156:t144<(t143.length:Int):=aK (by first|(with_reducible assumption)|assumption);obtain ⟨ad156,e156,hx156_0⟩:=Kd.at_int (Kd.Qg HO_30.out).2.2 t144 p156 q156
                       cases e156
                       replace p156:=eq_true p156;replace q156:=eq_true q156;have p157:0≤((rd t143 t144):Int):=aK (by first|(with_reducible assumption)|assumption);have q157:(rd t143 t144)<(t141.length:Int):=aK (by first|(with_reducible assumption)|assumption);obtain ⟨ad157,e157,hx157_0⟩:=Kd.at_int (Kd.Qg HO_28.out).2.2 (rd t143 t144) p157 q157
                       cases e157
                       replace p157:=eq_true p157;replace q157:=eq_true q157;have p158:0≤(t145:Int):=aK (by first|(with_reducible assumption)|assumption);have q158:t145<(t143.length:Int):=aK (by first|(with_reducible assumption)|assumption);obtain ⟨ad158,e158,hx158_0⟩:=Kd.at_int (Kd.Qg HO_30.out).2.2 t145 p158 q158;obtain rfl:ad156=ad158:=(by injection e158);replace p158:=eq_true p158;replace q158:=eq_true q158;have p159:0≤((rd t143 t145):Int):=aK (by first|(with_reducible assumption)|assumption);have q159:(rd t143 t145)<(t141.length:Int):=aK (by first|(with_reducible assumption)|assumption);obtain ⟨ad159,e159,hx159_0⟩:=Kd.at_int (Kd.Qg HO_28.out).2.2 (rd t143 t145) p159 q159;obtain rfl:ad157=ad159:=(by injection e159);replace p159:=eq_true p159;replace q159:=eq_true q159;have p160:0≤(t144:Int):=aK (by first|(with_reducible assumption)|assumption);have q160:t144<(t142.length:Int):=aK (by first|(with_reducible assumption)|assumption);obtain ⟨ad160,e160,hx160_0⟩:=Kd.at_int (Kd.Qg HO_29.out).2.2 t144 p160 q160
                       cases e160
                       replace p160:=eq_true p160;replace q160:=eq_true q160;have p161:0≤(t145:Int):=aK (by first|(with_reducible assumption)|assumption);have q161:t145<(t142.length:Int):=aK (by first|(with_reducible assumption)|assumption);obtain ⟨ad161,e161,hx161_0⟩:=Kd.at_int (Kd.Qg HO_29.out).2.2 t145 p161 q161;obtain rfl:ad160=ad161:=(by injection e161);replace p161:=eq_true p161;replace q161:=eq_true q161;refine start_ (n:=28) (S:=fun w'=>w'.cell? (ad156.add (t144).toNat)=some (.int .i64 (rd t143 t144))∧w'.cell? (ad157.add ((rd t143 t144)).toNat)=some (.int .i64 (rd t141 (rd t143 t144)))∧w'.cell? (ad156.add (t145).toNat)=some (.int .i64 (rd t143 t145))∧w'.cell? (ad157.add ((rd t143 t145)).toNat)=some (.int .i64 (rd t141 (rd t143 t145)))∧w'.cell? (ad160.add (t144).toNat)=some (.int .i64 (rd t142 t144))∧w'.cell? (ad160.add (t145).toNat)=some (.int .i64 (rd t142 t145))) (ds:=[]) (bz 28 0) (by kernel_rfl) rfl rfl ⟨hx156_0,hx157_0,hx158_0,hx159_0,hx160_0,hx161_0⟩ (fun hHeld=>?_);refine with_tabW laws_FnRanks.tab28 laws_FnRanks.bits28 (fun HT_ HW_=>?_)
                       generalize wc.drew=w82 at HO_28 HO_29 HO_30 HB hx156_0 hx157_0 hx158_0 hx159_0 hx160_0 hx161_0 hHeld ⊢
                       refine pure_ (i:=0) (N:=some 216) (v:=?_) (a':=?_) (bz 28 1) rfl rfl (any_of HT_.out (by kernel_rfl)) (fun _ _ _ h=>h) (Or.inl ⟨by rfl,?_⟩) ?_ ?_;rotate_left;(intro w';go_simp;with_reducible rfl);rotate_left;(simp only [Act.put,aA,aB,aC,i64_w,i32_w];rfl);refine pure_ (i:=1) (N:=some 217) (v:=?_) (a':=?_) (bz 28 3) rfl rfl (any_of HT_.out (by kernel_rfl)) (fun _ _ _ h=>h) (Or.inl ⟨by rfl,?_⟩) ?_ ?_;rotate_left;(intro w';go_simp;with_reducible rfl);rotate_left;(simp only [Act.put,aA,aB,aC,i64_w,i32_w];rfl);refine pure_ (i:=2) (N:=some 218) (v:=?_) (a':=?_) (bz 28 7) rfl rfl (any_of HT_.out (by kernel_rfl)) (fun _ _ _ h=>h) (Or.inl ⟨by rfl,?_⟩) ?_ ?_;rotate_left;(intro w';go_simp;with_reducible rfl);rotate_left;(simp only [Act.put,aA,aB,aC,i64_w,i32_w];rfl);refine pure_ (i:=3) (N:=some 219) (v:=?_) (a':=?_) (bz 28 15) rfl rfl (any_of HT_.out (by kernel_rfl)) (fun _ _ _ h=>h) (Or.inl ⟨by rfl,?_⟩) ?_ ?_;rotate_left;(intro w';go_simp;with_reducible rfl);rotate_left;(simp only [Act.put,aA,aB,aC,i64_w,i32_w];rfl);refine pure_ (i:=4) (N:=some 220) (v:=?_) (a':=?_) (bz 28 31) rfl rfl (any_of HT_.out (by kernel_rfl)) (fun _ _ _ h=>h) (Or.inl ⟨by rfl,?_⟩) ?_ ?_;rotate_left;(intro w';go_simp;with_reducible rfl);rotate_left;(simp only [Act.put,aA,aB,aC,i64_w,i32_w];rfl);refine pure_ (i:=8) (N:=some 224) (v:=?_) (a':=?_) (bz 28 287) rfl rfl (any_of HT_.out (by kernel_rfl)) (fun _ _ _ h=>h) (Or.inl ⟨by rfl,?_⟩) ?_ ?_;rotate_left;(intro w';go_simp;with_reducible rfl);rotate_left;(simp only [Act.put,aA,aB,aC,i64_w,i32_w];rfl);refine pure_ (i:=9) (N:=some 225) (v:=?_) (a':=?_) (bz 28 799) rfl rfl (any_of HT_.out (by kernel_rfl)) (fun _ _ _ h=>h) (Or.inl ⟨by rfl,?_⟩) ?_ ?_;rotate_left;(intro w';go_simp;with_reducible rfl);rotate_left;(simp only [Act.put,aA,aB,aC,i64_w,i32_w];rfl);refine pure_ (i:=10) (N:=some 226) (v:=?_) (a':=?_) (bz 28 1823) rfl rfl (any_of HT_.out (by kernel_rfl)) (fun _ _ _ h=>h) (Or.inl ⟨by rfl,?_⟩) ?_ ?_;rotate_left;(intro w';go_simp;with_reducible rfl);rotate_left;(simp only [Act.put,aA,aB,aC,i64_w,i32_w];rfl);refine pure_ (i:=11) (N:=some 227) (v:=?_) (a':=?_) (bz 28 3871) rfl rfl (any_of HT_.out (by kernel_rfl)) (fun _ _ _ h=>h) (Or.inl ⟨by rfl,?_⟩) ?_ ?_;rotate_left;(intro w';go_simp;with_reducible rfl);rotate_left;(simp only [Act.put,aA,aB,aC,i64_w,i32_w];rfl);refine pure_ (i:=16) (N:=some 232) (v:=?_) (a':=?_) (bz 28 69407) rfl rfl (any_of HT_.out (by kernel_rfl)) (fun _ _ _ h=>h) (Or.inl ⟨by rfl,?_⟩) ?_ ?_;rotate_left;(intro w';go_simp;with_reducible rfl);rotate_left;(simp only [Act.put,aA,aB,aC,i64_w,i32_w];rfl);refine pure_ (i:=17) (N:=some 233) (v:=?_) (a':=?_) (bz 28 200479) rfl rfl (any_of HT_.out (by kernel_rfl)) (fun _ _ _ h=>h) (Or.inl ⟨by rfl,?_⟩) ?_ ?_;rotate_left;(intro w';go_simp;with_reducible rfl);rotate_left;(simp only [Act.put,aA,aB,aC,i64_w,i32_w];rfl);refine pure_ (i:=18) (N:=some 234) (v:=?_) (a':=?_) (bz 28 462623) rfl rfl (any_of HT_.out (by kernel_rfl)) (fun _ _ _ h=>h) (Or.inl ⟨by rfl,?_⟩) ?_ ?_;rotate_left;(intro w';go_simp;with_reducible rfl);rotate_left;(simp only [Act.put,aA,aB,aC,i64_w,i32_w];rfl);refine pure_ (i:=20) (N:=some 236) (v:=?_) (a':=?_) (bz 28 1511199) rfl rfl (any_of HT_.out (by kernel_rfl)) (fun _ _ _ h=>h) (Or.inl ⟨by rfl,?_⟩) ?_ ?_;rotate_left;(intro w';go_simp;with_reducible rfl);rotate_left;(simp only [Act.put,aA,aB,aC,i64_w,i32_w];rfl);refine pure_ (i:=21) (N:=some 237) (v:=?_) (a':=?_) (bz 28 3608351) rfl rfl (any_of HT_.out (by kernel_rfl)) (fun _ _ _ h=>h) (Or.inl ⟨by rfl,?_⟩) ?_ ?_;rotate_left;(intro w';go_simp;with_reducible rfl);rotate_left;(simp only [Act.put,aA,aB,aC,i64_w,i32_w];rfl);refine pure_ (i:=22) (N:=some 238) (v:=?_) (a':=?_) (bz 28 7802655) rfl rfl (any_of HT_.out (by kernel_rfl)) (fun _ _ _ h=>h) (Or.inl ⟨by rfl,?_⟩) ?_ ?_;rotate_left;(intro w';go_simp;with_reducible rfl);rotate_left;(simp only [Act.put,aA,aB,aC,i64_w,i32_w];rfl);refine take_ (i:=5) (N:=some 221) (v:=?_) (a':=?_) (bz 28 7802687) rfl rfl (take_ofW HT_.out HW_.out (by kernel_rfl)) (fun _ _ _ h=>h) (Or.inl ⟨by rfl,?_⟩) hHeld ?_ ?_;rotate_left;(rintro w' ⟨s0,s1,s2,s3,s4,s5⟩;go_simp;with_reducible rfl);rotate_left;(simp only [Act.put,aA,aB,aC,i64_w,i32_w];rfl);refine pure_ (i:=6) (N:=some 222) (v:=?_) (a':=?_) (bz 28 7802751) rfl rfl (any_of HT_.out (by kernel_rfl)) (fun _ _ _ h=>h) (Or.inl ⟨by rfl,?_⟩) ?_ ?_;rotate_left;(intro w';go_simp;with_reducible rfl);rotate_left;(simp only [Act.put,aA,aB,aC,i64_w,i32_w];rfl);refine take_ (i:=7) (N:=some 223) (v:=?_) (a':=?_) (bz 28 7802879) rfl rfl (take_ofW HT_.out HW_.out (by kernel_rfl)) (fun _ _ _ h=>h) (Or.inl ⟨by rfl,?_⟩) hHeld ?_ ?_;rotate_left;(rintro w' ⟨s0,s1,s2,s3,s4,s5⟩;go_simp;with_reducible rfl);rotate_left;(simp only [Act.put,aA,aB,aC,i64_w,i32_w];rfl);refine take_ (i:=12) (N:=some 228) (v:=?_) (a':=?_) (bz 28 7806975) rfl rfl (take_ofW HT_.out HW_.out (by kernel_rfl)) (fun _ _ _ h=>h) (Or.inl ⟨by rfl,?_⟩) hHeld ?_ ?_;rotate_left;(rintro w' ⟨s0,s1,s2,s3,s4,s5⟩;go_simp;with_reducible rfl);rotate_left;(simp only [Act.put,aA,aB,aC,i64_w,i32_w];rfl);refine pure_ (i:=13) (N:=some 229) (v:=?_) (a':=?_) (bz 28 7815167) rfl rfl (any_of HT_.out (by kernel_rfl)) (fun _ _ _ h=>h) (Or.inl ⟨by rfl,?_⟩) ?_ ?_;rotate_left;(intro w';go_simp;with_reducible rfl);rotate_left;(simp only [Act.put,aA,aB,aC,i64_w,i32_w];rfl);refine take_ (i:=14) (N:=some 230) (v:=?_) (a':=?_) (bz 28 7831551) rfl rfl (take_ofW HT_.out HW_.out (by kernel_rfl)) (fun _ _ _ h=>h) (Or.inl ⟨by rfl,?_⟩) hHeld ?_ ?_;rotate_left;(rintro w' ⟨s0,s1,s2,s3,s4,s5⟩;go_simp;with_reducible rfl);rotate_left;(simp only [Act.put,aA,aB,aC,i64_w,i32_w];rfl);refine pure_ (i:=15) (N:=some 231) (v:=?_) (a':=?_) (bz 28 7864319) rfl rfl (any_of HT_.out (by kernel_rfl)) (fun _ _ _ h=>h) (Or.inl ⟨by rfl,?_⟩) ?_ ?_;rotate_left;(intro w';go_simp;with_reducible rfl);rotate_left;(simp only [Act.put,aA,aB,aC,i64_w,i32_w];rfl);refine take_ (i:=19) (N:=some 235) (v:=?_) (a':=?_) (bz 28 8388607) rfl rfl (take_ofW HT_.out HW_.out (by kernel_rfl)) (fun _ _ _ h=>h) (Or.inl ⟨by rfl,?_⟩) hHeld ?_ ?_;rotate_left;(rintro w' ⟨s0,s1,s2,s3,s4,s5⟩;go_simp;with_reducible rfl);rotate_left;(simp only [Act.put,aA,aB,aC,i64_w,i32_w];rfl);refine take_ (i:=23) (N:=some 239) (v:=?_) (a':=?_) (bz 28 16777215) rfl rfl (take_ofW HT_.out HW_.out (by kernel_rfl)) (fun _ _ _ h=>h) (Or.inl ⟨by rfl,?_⟩) hHeld ?_ ?_;rotate_left;(rintro w' ⟨s0,s1,s2,s3,s4,s5⟩;go_simp;with_reducible rfl);rotate_left;(simp only [Act.put,aA,aB,aC,i64_w,i32_w];rfl);refine pure_ (i:=24) (N:=some 240) (v:=?_) (a':=?_) (bz 28 33554431) rfl rfl (any_of HT_.out (by kernel_rfl)) (fun _ _ _ h=>h) (Or.inl ⟨by rfl,?_⟩) ?_ ?_;rotate_left;(intro w';go_simp;with_reducible rfl);rotate_left;(simp only [Act.put,aA,aB,aC,i64_w,i32_w];rfl);refine pure_ (i:=25) (N:=some 241) (v:=?_) (a':=?_) (bz 28 67108863) rfl rfl (any_of HT_.out (by kernel_rfl)) (fun _ _ _ h=>h) (Or.inl ⟨by rfl,?_⟩) ?_ ?_;rotate_left;(intro w';go_simp;with_reducible rfl);rotate_left;(simp only [Act.put,aA,aB,aC,i64_w,i32_w];rfl);refine pure_ (i:=26) (N:=some 242) (v:=?_) (a':=?_) (bz 28 134217727) rfl rfl (any_of HT_.out (by kernel_rfl)) (fun _ _ _ h=>h) (Or.inl ⟨by rfl,?_⟩) ?_ ?_;rotate_left;(intro w';go_simp;with_reducible rfl);rotate_left;(simp only [Act.put,aA,aB,aC,i64_w,i32_w];rfl);refine pure_ (i:=27) (N:=some 4) (v:=?_) (a':=?_) (bz 28 268435455) rfl rfl (any_of HT_.out (by kernel_rfl)) (fun _ _ _ h=>h) (Or.inl ⟨by rfl,?_⟩) ?_ ?_;rotate_left;(intro w';go_simp;with_reducible rfl);rotate_left;(simp only [Act.put,aA,aB,aC,i64_w,i32_w];rfl);refine done_ (done_of HT_.out (by kernel_rfl)) ?_
                       try go_wp2
                       go_ret
                       exact ⟨by first|rfl|(simp [errW_none,errW_some] <;> rfl)|(simp [*,errW_none,errW_some] <;> rfl),by repeat (with_reducible first|exact HB.out|apply Qc|apply Qa|apply Qb)⟩
                     ·rw [if_neg c81] at H;exact absurd H (by simp)
                    ·rw [if_neg c80] at H;exact absurd H (by simp)
                   ·rw [if_neg c79] at H;exact absurd H (by simp)
                  ·rw [if_neg c78] at H;exact absurd H (by simp)
                 ·rw [if_neg c77] at H;exact absurd H (by simp)
                ·rw [if_neg c76] at H;exact absurd H (by simp)
               ·rw [if_neg c75] at H;exact absurd H (by simp)
              ·rw [if_neg c74] at H;exact absurd H (by simp)
             ·rw [if_neg c73] at H;exact absurd H (by simp)
            ·rw [if_neg c72] at H;exact absurd H (by simp)
           ·replace c71:=Bool.eq_false_iff.mpr c71;subst c71;have H1:(some true)=some r:=by rw [if_neg (show ¬ (false=true) by decide)] at H;exact H
            clear H;have H:=H1;clear H1
            as_aux_lemma=>
             obtain rfl:=Option.some.inj H;go_wp2
             go_ret
             exact ⟨by first|rfl|(simp [errW_none,errW_some] <;> rfl)|(simp [*,errW_none,errW_some] <;> rfl),by repeat (with_reducible first|exact HB.out|apply Qc|apply Qa|apply Qb)⟩

/-- THE ONE PURE STATEMENT of laws_FnRanks:yours. -/
def laws_FnRanks.Pure:Prop:=∀ (l0:List Int) (l1:List Int),l0.length≤maxLen→l0.length * 1≤140737488351232→(∀ x ∈ l0,(Lit.int .u8 x).wf=true)→l1.length≤maxLen→l1.length * 1≤140737488351232→(∀ x ∈ l1,(Lit.int .u8 x).wf=true)→∃ k,laws_FnRanks.f k l0 l1=some true
theorem laws_FnRanks.walk (P:laws_FnRanks.Pure) (a0:Option Addr) (len0 cap0:Nat) (z0:List Int) (a1:Option Addr) (len1 cap1:Nat) (z1:List Int) (w:World) (w0:(a0=none∧len0=0∧cap0=0∧z0=[])∨∃ x,a0=some x∧len0≤cap0∧cap0≤maxLen∧z0.length=cap0∧(∀ i,i<z0.length→w.cell? (x.add i)=some (.int .u8 (z0.getD i 0)))∧∀ n ∈ z0,(Lit.int .u8 n).wf=true) (y0:len0 * 1≤140737488351232) (w1:(a1=none∧len1=0∧cap1=0∧z1=[])∨∃ x,a1=some x∧len1≤cap1∧cap1≤maxLen∧z1.length=cap1∧(∀ i,i<z1.length→w.cell? (x.add i)=some (.int .u8 (z1.getD i 0)))∧∀ n ∈ z1,(Lit.int .u8 n).wf=true) (y1:len1 * 1≤140737488351232) :
    Calls Try.prog 8 #[.slice a0 len0 cap0,.slice a1 len1 cap1] w fun e w'=>e= .returned (.bool true)∧Below w.heap.size w w':=by
  obtain ⟨l0,rfl,hr0,hm0,hw0,hc0⟩:=ReadsInt.ofRowC w0;obtain ⟨l1,rfl,hr1,hm1,hw1,hc1⟩:=ReadsInt.ofRowC w1;obtain ⟨k,h⟩:=P l0 l1 hm0 y0 hw0 hm1 y1 hw1;refine (laws_FnRanks.calls k _ _ l0 _ _ l1 true w (Kd.C_of_reads (d:=(0:Int)) (h1:=fun _=>rfl) hr0) hc0 (Kd.C_of_reads (d:=(0:Int)) (h1:=fun _=>rfl) hr1) hc1 h).mono ?_
  rintro e w' ⟨rfl,hd⟩
  exact ⟨rfl,hd⟩
end Go.Proofs.Ytneojimdhnhkeaa.Print
namespace Go.Proofs.Ytneojimdhnhkeaa.Pure
open Go.RowKit Go.Proofs.Ytneojimdhnhkeaa.Print Go.Proofs.YtneojimdhnhkeaaW.PrintWords Go.Proofs.YtneojimdhnhkeaaW.PrintLast Go.Proofs.YtneojimdhnhkeaaW.PrintMore

theorem Ev.of_eq {α : Type} {g : Nat → Option α} {r : α} (h : ∀ k, g k = some r) : Ev g r := ⟨0, fun k _ => h k⟩
theorem Ev.bind0 {α β : Type} {o : Option α} {f : Nat → α → Option β} {a : α} {r : β} (h : o = some a) (k : Ev (fun n => f n a) r) : Ev (fun n => o.bind (f n)) r := by
  subst h; exact k
theorem Ev.pos {α : Type} {c : Prop} [Decidable c] {g f : Nat → Option α} {r : α} (h : c) (k : Ev g r) : Ev (fun n => if c then g n else f n) r := by
  simpa only [if_pos h] using k
theorem Ev.neg {α : Type} {c : Prop} [Decidable c] {g f : Nat → Option α} {r : α} (h : ¬ c) (k : Ev f r) : Ev (fun n => if c then g n else f n) r := by
  simpa only [if_neg h] using k
theorem Ev.ite {α : Type} {c : Prop} [Decidable c] {g f : Nat → Option α} {r : α} (h : c → Ev g r) (k : ¬ c → Ev f r) : Ev (fun n => if c then g n else f n) r := by
  by_cases hc : c
  · exact Ev.pos hc (h hc)
  · exact Ev.neg hc (k hc)
theorem Ev.step0 {α : Type} {g f : Nat → Option α} {r : α} (k : Ev f r) (h : ∀ k, g (k + 1) = f k) : Ev g r := Ev.step h k
theorem Ev.to {α : Type} {g : Nat → Option α} {r s : α} (k : Ev g r) (h : r = s) : Ev g s := h ▸ k
theorem ev_up {β : Type} (n : Nat) (g : Nat → Nat → Option β) (r : β) (I : Nat → Prop) (h0 : I 0)
    (hend : I n → Ev (fun k => g k n) r) (hstep : ∀ i, i < n → I i → (I (i + 1) → Ev (fun k => g k (i + 1)) r) → Ev (fun k => g k i) r) : Ev (fun k => g k 0) r := by
  have h : ∀ d i, i + d = n → I i → Ev (fun k => g k i) r := by
    intro d
    induction d with
    | zero => intro i hi hI; obtain rfl : i = n := by omega
              exact hend hI
    | succ d ih => intro i hi hI; exact hstep i (by omega) hI fun hI' => ih (i + 1) (by omega) hI'
  exact h n 0 (by omega) h0
theorem w64 {x : Int} (h1 : -9223372036854775808 ≤ x) (h2 : x < 9223372036854775808) : wrap64 x = x := by unfold wrap64; omega
theorem rd_nat (l : List Int) (i : Nat) (h : i < l.length) : rd l (i : Int) = l[i] := by simp [rd, h]
theorem toNat_nat (i : Nat) : ((i : Int)).toNat = i := Int.toNat_natCast i
theorem lt_len {α : Type} {l : List α} {i : Nat} (h : i < l.length) : (i : Int) < (l.length : Int) := by omega
def allIn (l : List Int) (lo hi : Int) : Bool := l.all fun x => decide (lo ≤ x) && decide (x ≤ hi)
theorem allIn_iff (l : List Int) (lo hi : Int) : allIn l lo hi = true ↔ ∀ x ∈ l, lo ≤ x ∧ x ≤ hi := by
  simp [allIn, List.all_eq_true]
theorem all_take_false {α : Type} (l : List α) (p : α → Bool) (i : Nat) (h : i < l.length) (hp : p l[i] = false) : l.all p = false := by
  rw [List.all_eq_false]; exact ⟨l[i], List.getElem_mem h, by simp [hp]⟩
theorem all_take_succ {α : Type} (l : List α) (p : α → Bool) (i : Nat) (h : i < l.length) (ht : (l.take i).all p = true) (hp : p l[i] = true) : (l.take (i + 1)).all p = true := by
  rw [List.take_succ_eq_append_getElem h, List.all_append, ht]; simp [hp]
theorem Ev.succ {α : Type} {g : Nat → Option α} {r : α} (h : Ev (fun k => g (k + 1)) r) : Ev g r := Ev.step (fun _ => rfl) h
theorem exists_nat_of_nonneg {x : Int} (h : 0 ≤ x) : ∃ n : Nat, x = n := ⟨x.toNat, by omega⟩

def bytesOk (l : List Int) : Prop := ∀ x ∈ l, 0 ≤ x ∧ x ≤ 255
theorem wf_u8 {x : Int} (h : (Lit.int .u8 x).wf = true) : 0 ≤ x ∧ x ≤ 255 := by
  have h' : decide (IntKind.u8.min ≤ x) && decide (x ≤ IntKind.u8.max) := h
  simp only [Bool.and_eq_true, decide_eq_true_eq] at h'
  have e1 : IntKind.u8.min = 0 := by decide
  have e2 : IntKind.u8.max = 255 := by decide
  omega
theorem bytesOk_of (l : List Int) (h : ∀ x ∈ l, (Lit.int .u8 x).wf = true) : bytesOk l := fun x hx => wf_u8 (h x hx)
theorem u64_range (x : Int) : 0 ≤ IntKind.u64.wrap x ∧ IntKind.u64.wrap x < 18446744073709551616 := by
  have e : IntKind.u64.wrap x = x % 18446744073709551616 := by simp [IntKind.wrap, IntKind.bits, IntKind.signed]
  rw [e]; omega
theorem and_255 (x : Int) (h0 : 0 ≤ x) (h1 : x < 18446744073709551616) : 0 ≤ Go.bits .and .u64 x 255 ∧ Go.bits .and .u64 x 255 ≤ 255 := by
  obtain ⟨n, rfl⟩ := exists_nat_of_nonneg h0
  have e : Go.bits .and .u64 (n : Int) ((255 : Nat) : Int) = ((n &&& 255 : Nat) : Int) := u64_and_nat n 255 (by omega) (by omega)
  have h2 : n &&& 255 ≤ 255 := Nat.and_le_right
  have e' : Go.bits .and .u64 (n : Int) 255 = ((n &&& 255 : Nat) : Int) := e
  rw [e']; omega
theorem rd_mem_or (l : List Int) (i : Int) (h0 : 0 ≤ i) (h : i < l.length) : rd l i ∈ l := by
  obtain ⟨n, rfl⟩ := exists_nat_of_nonneg h0
  rw [rd_nat l n (by omega)]; exact List.getElem_mem _

theorem cur_next (l : List Int) (a s : Int) (hl : bytesOk l) (ha : 0 ≤ a ∧ a ≤ 4611686018427387904) :
    ∃ b s', spec_l1Cur_next.f l a s = some (b, a + 1, s') ∧ 0 ≤ b ∧ b ≤ 255 := by
  have hmask : ∀ y : Int, 0 ≤ wrap64 (Go.bits .and .u64 ((IntKind.u64.wrap y) / 1099511627776) 255) ∧ wrap64 (Go.bits .and .u64 ((IntKind.u64.wrap y) / 1099511627776) 255) ≤ 255 := fun y => by
    have h1 := u64_range y
    have h2 := and_255 ((IntKind.u64.wrap y) / 1099511627776) (by omega) (by omega)
    rw [w64 (by omega) (by omega)]; exact h2
  unfold spec_l1Cur_next.f
  rw [w64 (x := a + 1) (by omega) (by omega)]
  by_cases h1 : a < (l.length : Int)
  · have hb := hl _ (rd_mem_or l a ha.1 h1)
    rw [if_pos h1, if_pos ha.1]
    by_cases h2 : a + 1 ≤ (l.length : Int)
    · rw [if_pos h2]; exact ⟨_, _, rfl, by rw [w64 (by omega) (by omega)]; exact hb⟩
    · rw [if_neg h2]; exact ⟨_, _, rfl, hmask _⟩
  · rw [if_neg h1]
    by_cases h2 : a + 1 ≤ (l.length : Int)
    · rw [if_pos h2]; exact ⟨_, _, rfl, by omega⟩
    · rw [if_neg h2]; exact ⟨_, _, rfl, hmask _⟩

theorem cur_pick (l : List Int) (a s n : Int) (hl : bytesOk l) (ha : 0 ≤ a ∧ a ≤ 4611686018427387900) :
    ∃ r a' s', spec_l1Cur_pick.f l a s n = some (r, a', s') ∧ 0 ≤ r ∧ (r < n ∨ n ≤ 1 ∧ r = 0) ∧ a ≤ a' ∧ a' ≤ a + 2 := by
  unfold spec_l1Cur_pick.f
  by_cases h : n ≤ 1
  · rw [if_pos h]; exact ⟨0, a, s, rfl, by omega, .inr ⟨h, rfl⟩, by omega, by omega⟩
  · rw [if_neg h]
    obtain ⟨b, s1, e1, hb⟩ := cur_next l a s hl (by omega)
    rw [e1]; simp only [Option.bind_some]
    by_cases h2 : n > 200
    · rw [if_pos h2]
      obtain ⟨c, s2, e2, hc⟩ := cur_next l (a + 1) s1 hl (by omega)
      rw [e2]; simp only [Option.bind_some]; rw [if_neg (by omega), w64 (x := b * 256) (by omega) (by omega), w64 (by omega) (by omega)]
      exact ⟨_, _, _, rfl, Int.tmod_nonneg _ (by omega), .inl (Int.tmod_lt_of_pos _ (by omega)), by omega, by omega⟩
    · rw [if_neg h2, if_neg (by omega)]
      exact ⟨_, _, _, rfl, Int.tmod_nonneg _ (by omega), .inl (Int.tmod_lt_of_pos _ (by omega)), by omega, by omega⟩

theorem cur_one (l : List Int) (a s n : Int) (hl : bytesOk l) (ha : 0 ≤ a ∧ a ≤ 4611686018427387900) :
    ∃ r a' s', spec_l1Cur_one.f l a s n = some (r, a', s') ∧ a ≤ a' ∧ a' ≤ a + 2 := by
  unfold spec_l1Cur_one.f
  obtain ⟨r, a', s', e, h0, h1, h2, h3⟩ := cur_pick l a s n hl ha
  rw [e]; exact ⟨_, _, _, rfl, h2, h3⟩

theorem cur_among (l : List Int) (a s : Int) (l1 : List Int) (hl : bytesOk l) (ha : 0 ≤ a ∧ a ≤ 4611686018427387900) (h1 : 0 < l1.length) :
    ∃ r a' s', spec_l1Cur_among.f l a s l1 = some (r, a', s') ∧ r ∈ l1 ∧ a ≤ a' ∧ a' ≤ a + 2 := by
  unfold spec_l1Cur_among.f
  obtain ⟨r, a', s', e, h2, h3, h4, h5⟩ := cur_pick l a s (l1.length : Int) hl ha
  have h6 : r < (l1.length : Int) := by omega
  rw [e]; simp only [Option.bind_some]; rw [if_pos h2, if_pos h6]
  exact ⟨_, _, _, rfl, rd_mem_or l1 r h2 h6, h4, h5⟩

theorem w64n {i n : Nat} (h : i < n) (hn : n ≤ 4611686018427387904) : wrap64 ((i : Int) + 1) = ((i + 1 : Nat) : Int) := by rw [w64 (by omega) (by omega)]; rfl
theorem laws_numberOf_ev (l : List Int) (hb : bytesOk l) (hl : l.length ≤ 1048576) : ∃ r, Ev (fun k => laws_numberOf.f k l) r ∧ 0 ≤ r ∧ r < 1000003 := by
  unfold laws_numberOf.f
  have gen : ∀ (d i : Nat) (x : Int), i + d = l.length → 0 ≤ x ∧ x < 1000003 → ∃ r, Ev (fun k => laws_numberOf.l0 k x l (l.length : Int) (i : Int)) r ∧ 0 ≤ r ∧ r < 1000003 := by
    intro d
    induction d with
    | zero =>
      intro i x hi hx
      refine ⟨x, Ev.succ ?_, hx⟩
      simp only [laws_numberOf.l0]; exact Ev.neg (by omega) (Ev.now _)
    | succ d ih =>
      intro i x hi hx
      have hi' : i < l.length := by omega
      have hbx := hb l[i] (List.getElem_mem hi')
      have h1 := Int.tmod_nonneg 1000003 (show 0 ≤ 31 * x + l[i] by omega)
      have h2 := Int.tmod_lt_of_pos (31 * x + l[i]) (show (0 : Int) < 1000003 by omega)
      obtain ⟨r, hr, hb2⟩ := ih (i + 1) (Int.tmod (31 * x + l[i]) 1000003) (by omega) ⟨h1, h2⟩
      refine ⟨r, Ev.succ ?_, hb2⟩
      simp only [laws_numberOf.l0]
      refine Ev.pos (by omega) (Ev.pos (by omega) (Ev.pos (by omega) ?_))
      rw [rd_nat l i hi', w64n hi' (by omega), w64 (x := 31 * x) (by omega) (by omega), w64 (x := l[i]) (by omega) (by omega), w64 (by omega) (by omega)]
      exact hr
  simpa using gen l.length 0 0 (by omega) (by omega)

theorem laws_sameInts_ev (a b : List Int) (hl : a.length ≤ 4611686018427387904) : Ev (fun k => laws_sameInts.f k a b) (decide (a = b)) := by
  unfold laws_sameInts.f
  refine Ev.ite (fun h => ?_) (fun h => ?_)
  · have hlen : a.length = b.length := by omega
    have gen : ∀ (d i : Nat), i + d = a.length → Ev (fun k => laws_sameInts.l0 k a b (a.length : Int) (i : Int)) (decide (a.drop i = b.drop i)) := by
      intro d
      induction d with
      | zero =>
        intro i hi
        rw [List.drop_of_length_le (by omega), List.drop_of_length_le (by omega)]
        refine Ev.succ ?_
        simp only [laws_sameInts.l0]; exact Ev.neg (by omega) (by simpa using Ev.now true)
      | succ d ih =>
        intro i hi
        have hi' : i < a.length := by omega
        have hi2 : i < b.length := by omega
        rw [List.drop_eq_getElem_cons hi', List.drop_eq_getElem_cons hi2]
        refine Ev.succ ?_
        simp only [laws_sameInts.l0]
        refine Ev.pos (by omega) (Ev.pos (by omega) (Ev.pos (by omega) (Ev.pos (by omega) ?_)))
        rw [rd_nat a i hi', rd_nat b i hi2, w64n hi' (by omega)]
        refine Ev.ite (fun h => ?_) (fun h => ?_)
        · have e : decide (a[i] :: a.drop (i + 1) = b[i] :: b.drop (i + 1)) = decide (a.drop (i + 1) = b.drop (i + 1)) := by
            rw [decide_eq_decide, h]; exact ⟨fun h => (List.cons.inj h).2, fun h => by rw [h]⟩
          rw [e]; exact ih (i + 1) (by omega)
        · have e : decide (a[i] :: a.drop (i + 1) = b[i] :: b.drop (i + 1)) = false := by
            rw [decide_eq_false_iff_not]; intro h2; injection h2 with h3; exact h h3
          rw [e]; exact Ev.now _
    simpa using gen a.length 0 (by omega)
  · have e : decide (a = b) = false := by rw [decide_eq_false_iff_not]; rintro rfl; exact h rfl
    rw [e]; exact Ev.now _

theorem spec_l1In_eq (n lo hi : Int) : spec_l1In.f n lo hi = some (decide (lo ≤ n) && decide (n ≤ hi)) := by
  unfold spec_l1In.f
  by_cases h : n ≥ lo
  · rw [if_pos h, decide_eq_true (show lo ≤ n from h)]; simp
  · rw [if_neg h, decide_eq_false (show ¬ lo ≤ n from h)]; simp

theorem impl_within_eq (n lo hi : Int) : impl_within.f n lo hi = some (decide (lo ≤ n) && decide (n ≤ hi)) := by
  unfold impl_within.f
  by_cases h : n ≥ lo
  · rw [if_pos h, decide_eq_true (show lo ≤ n from h)]; simp
  · rw [if_neg h, decide_eq_false (show ¬ lo ≤ n from h)]; simp

theorem spec_l1All_ev (l : List Int) (lo hi : Int) (hl : l.length < 4611686018427387904) : Ev (fun k => spec_l1All.f k l lo hi) (allIn l lo hi) := by
  unfold spec_l1All.f
  refine ev_up l.length (fun k i => spec_l1All.l0 k lo hi l (l.length : Int) (i : Int)) _ (fun i => allIn (l.take i) lo hi = true) (by simp [allIn]) ?_ ?_
  · intro hI
    refine Ev.step0 (Ev.of_eq fun _ => rfl) fun k => ?_
    simp only [spec_l1All.l0]; rw [if_neg (by omega)]
    rw [List.take_length] at hI; rw [hI]
  · intro i hi' hI hn
    cases hb : (decide (lo ≤ l[i]) && decide (l[i] ≤ hi)) with
    | true =>
      refine Ev.step0 (hn (all_take_succ l _ i hi' hI hb)) fun k => ?_
      simp only [spec_l1All.l0]; rw [if_pos (lt_len hi'), if_pos (by omega), if_pos (lt_len hi'), rd_nat l i hi', spec_l1In_eq, hb]
      simp only [Option.bind_some, if_true]; rw [w64 (by omega) (by omega)]; rfl
    | false =>
      refine Ev.step0 (Ev.of_eq fun _ => rfl) fun k => ?_
      simp only [spec_l1All.l0]; rw [if_pos (lt_len hi'), if_pos (by omega), if_pos (lt_len hi'), rd_nat l i hi', spec_l1In_eq, hb]
      simp only [Option.bind_some]; rw [if_neg (by decide)]
      rw [show allIn l lo hi = false from all_take_false l _ i hi' hb]

theorem impl_allWithin_ev (l : List Int) (lo hi : Int) (hl : l.length < 4611686018427387904) : Ev (fun k => impl_allWithin.f k l lo hi) (allIn l lo hi) := by
  unfold impl_allWithin.f sl0_ContainsFunc.f sl1_IndexFunc.f
  have key : ∃ j : Int, decide (j ≥ 0) = !(allIn l lo hi) ∧ Ev (fun k => sl1_IndexFunc.l0 k l (l.length : Int) 0 lo hi) j := by
    have hc : ∀ x : Int, impl_allWithin_1.f x lo hi = some (!(decide (lo ≤ x) && decide (x ≤ hi))) := fun x => by
      unfold impl_allWithin_1.f; rw [impl_within_eq]; rfl
    cases ha : allIn l lo hi with
    | true =>
      refine ⟨-1, by decide, ?_⟩
      refine ev_up l.length (fun k i => sl1_IndexFunc.l0 k l (l.length : Int) (i : Int) lo hi) _ (fun _ => True) trivial ?_ ?_
      · intro _
        refine Ev.step0 (Ev.of_eq fun _ => rfl) fun k => ?_
        simp only [sl1_IndexFunc.l0]; rw [if_neg (by omega)]
      · intro i hi' _ hn
        have hb := (allIn_iff l lo hi).mp ha l[i] (List.getElem_mem hi')
        refine Ev.step0 (hn trivial) fun k => ?_
        simp only [sl1_IndexFunc.l0]; rw [if_pos (lt_len hi'), if_pos (by omega), if_pos (lt_len hi'), rd_nat l i hi', hc, decide_eq_true hb.1, decide_eq_true hb.2]
        simp only [Option.bind_some]; rw [if_neg (by decide), w64 (by omega) (by omega)]; rfl
    | false =>
      have : ∃ i : Nat, i < l.length ∧ Ev (fun k => sl1_IndexFunc.l0 k l (l.length : Int) 0 lo hi) (i : Int) := by
        obtain ⟨i, hi', hp, hlt⟩ : ∃ i : Nat, ∃ h : i < l.length, (decide (lo ≤ l[i]) && decide (l[i] ≤ hi)) = false ∧ ∀ j, ∀ hj : j < i, (decide (lo ≤ l[j]) && decide (l[j] ≤ hi)) = true := by
          have h1 : ∃ i : Nat, ∃ h : i < l.length, (decide (lo ≤ l[i]) && decide (l[i] ≤ hi)) = false := by
            unfold allIn at ha
            rw [List.all_eq_false] at ha
            obtain ⟨x, hx, hp⟩ := ha
            obtain ⟨i, hi', rfl⟩ := List.getElem_of_mem hx
            exact ⟨i, hi', by simpa using hp⟩
          obtain ⟨m, hm, hmin⟩ := exists_least h1
          obtain ⟨hm1, hm2⟩ := hm
          refine ⟨m, hm1, hm2, fun j hj => ?_⟩
          cases hq : (decide (lo ≤ l[j]) && decide (l[j] ≤ hi)) with
          | true => rfl
          | false => have := hmin j ⟨by omega, hq⟩; omega
        refine ⟨i, hi', ?_⟩
        refine ev_up i (fun k i => sl1_IndexFunc.l0 k l (l.length : Int) (i : Int) lo hi) _ (fun _ => True) trivial ?_ ?_
        · intro _
          refine Ev.step0 (Ev.of_eq fun _ => rfl) fun k => ?_
          simp only [sl1_IndexFunc.l0]; rw [if_pos (lt_len hi'), if_pos (by omega), if_pos (lt_len hi'), rd_nat l i hi', hc, hp]
          simp
        · intro j hj _ hn
          have hj' : j < l.length := by omega
          refine Ev.step0 (hn trivial) fun k => ?_
          simp only [sl1_IndexFunc.l0]; rw [if_pos (lt_len hj'), if_pos (by omega), if_pos (lt_len hj'), rd_nat l j hj', hc, hlt j hj]
          simp only [Option.bind_some]; rw [if_neg (by decide), w64 (by omega) (by omega)]; rfl
      obtain ⟨i, _, hi2⟩ := this
      exact ⟨i, by simp, hi2⟩
  obtain ⟨j, hj, hev⟩ := key
  refine Ev.to (Ev.bind (Ev.bind hev (Ev.now _)) (Ev.now _)) ?_
  rw [hj]; simp

def lowNum (a b : Int) : Int := if b < 0 then Int.tdiv (-a) (Int.gcd a b) else Int.tdiv a (Int.gcd a b)
def lowDen (a b : Int) : Int := if b < 0 then Int.tdiv (-b) (Int.gcd a b) else Int.tdiv b (Int.gcd a b)
def goodFrac (a b : Int) : Bool := decide (-1000000000 ≤ a) && decide (a ≤ 1000000000) && (decide (1 ≤ b) && decide (b ≤ 1000000000)) && decide (Int.gcd a b = 1)

def flowOk (flow : List Int) : Bool := decide (1 ≤ (flow.length : Int)) && decide ((flow.length : Int) ≤ 8) && allIn flow 1 30
def countsOk (flow counts : List Int) : Bool := flowOk flow && (decide ((counts.length : Int) = (flow.length : Int)) && (allIn counts 1 40 && decide (counts.sum ≤ 40)))
def gn (f c : Int) : Int := lowNum f (c * (c + 1))
def gd (f c : Int) : Int := lowDen f (c * (c + 1))
def bestUp (lt : Nat → Nat → Bool) : Nat → Nat
  | 0 => 0
  | i + 1 => if lt (bestUp lt i) i = true then i else bestUp lt i
def gainLt (flow counts : List Int) (b i : Nat) : Bool := decide (gn flow[b]! counts[b]! * gd flow[i]! counts[i]! < gn flow[i]! counts[i]! * gd flow[b]! counts[b]!)
def nextOf (flow counts : List Int) : Nat := bestUp (gainLt flow counts) flow.length

def ins (lt : Int → Int → Bool) (x : Int) (l : List Int) : List Int := l.takeWhile (fun y => !lt x y) ++ x :: l.dropWhile (fun y => !lt x y)
def isl (lt : Int → Int → Bool) (l : List Int) : List Int := l.foldl (fun s x => ins lt x s) []
theorem isl_take_succ (lt : Int → Int → Bool) (l : List Int) (i : Nat) (h : i < l.length) : isl lt (l.take (i + 1)) = ins lt l[i] (isl lt (l.take i)) := by
  unfold isl; rw [List.take_succ_eq_append_getElem h, List.foldl_append, List.foldl_cons, List.foldl_nil]
theorem ins_perm (lt : Int → Int → Bool) (x : Int) (l : List Int) : (ins lt x l).Perm (x :: l) := by
  unfold ins; refine List.perm_middle.trans ?_; rw [List.takeWhile_append_dropWhile]
theorem foldl_ins_perm (lt : Int → Int → Bool) (l : List Int) : ∀ s : List Int, (l.foldl (fun s x => ins lt x s) s).Perm (s ++ l) := by
  induction l with
  | nil => intro s; simp
  | cons a l ih =>
    intro s
    rw [List.foldl_cons]
    exact (ih _).trans (((ins_perm lt a s).append_right l).trans List.perm_middle.symm)
theorem isl_perm (lt : Int → Int → Bool) (l : List Int) : (isl lt l).Perm l := by simpa [isl] using foldl_ins_perm lt l []
theorem isl_length (lt : Int → Int → Bool) (l : List Int) : (isl lt l).length = l.length := (isl_perm lt l).length_eq
theorem ins_split (lt : Int → Int → Bool) (x : Int) (A B : List Int) (hA : ∀ a ∈ A, lt x a = false) (hB : ∀ b ∈ B, lt x b = true) : ins lt x (A ++ B) = A ++ x :: B := by
  unfold ins
  rw [List.takeWhile_append_of_pos (fun a ha => by simp [hA a ha]), List.dropWhile_append_of_pos (fun a ha => by simp [hA a ha])]
  cases B with
  | nil => simp
  | cons b B => have := hB b (by simp); simp [this]
structure Weak (lt : Int → Int → Bool) (P : Int → Prop) : Prop where
  nt : ∀ a b c, P a → P b → P c → lt a b = false → lt b c = false → lt a c = false
  asy : ∀ a b, P a → P b → lt a b = true → lt b a = false
theorem ins_sorted {lt : Int → Int → Bool} {P : Int → Prop} (hw : Weak lt P) {x : Int} {s : List Int} (hx : P x) (hs : ∀ y ∈ s, P y) (h : s.Pairwise fun a b => lt b a = false) : (ins lt x s).Pairwise fun a b => lt b a = false := by
  unfold ins
  have hA : ∀ a ∈ s.takeWhile (fun y => !lt x y), lt x a = false := fun a ha => by
    have := List.all_eq_true.mp (List.all_takeWhile (p := fun y => !lt x y) (l := s)) a ha
    simpa using this
  have e : s.takeWhile (fun y => !lt x y) ++ s.dropWhile (fun y => !lt x y) = s := List.takeWhile_append_dropWhile
  have hd : ∀ B, s.dropWhile (fun y => !lt x y) = B → (match B with | [] => True | b :: _ => lt x b = true) := by
    intro B hB
    cases B with
    | nil => trivial
    | cons b B =>
      have := List.head?_dropWhile_not (fun y => !lt x y) s
      rw [hB] at this
      simpa using this
  revert hA e hd
  generalize s.takeWhile (fun y => !lt x y) = A
  generalize s.dropWhile (fun y => !lt x y) = B
  intro hA e hd
  subst e
  rw [List.pairwise_append] at h
  have hB : ∀ b ∈ B, lt x b = true := by
    intro b hb
    cases B with
    | nil => simp at hb
    | cons b0 B =>
      have h0 : lt x b0 = true := hd _ rfl
      rcases List.mem_cons.mp hb with rfl | hb
      · exact h0
      · have h1 := (List.pairwise_cons.mp h.2.1).1 b hb
        cases h2 : lt x b with
        | true => rfl
        | false => have := hw.nt x b b0 hx (hs _ (by simp [hb])) (hs _ (by simp)) h2 h1; rw [this] at h0; cases h0
  rw [List.pairwise_append]
  refine ⟨h.1, List.pairwise_cons.mpr ⟨fun b hb => hw.asy _ _ hx (hs _ (by simp [hb])) (hB b hb), h.2.1⟩, fun a ha y hy => ?_⟩
  rcases List.mem_cons.mp hy with rfl | hy
  · exact hA a ha
  · exact h.2.2 a ha y hy
theorem isl_sorted {lt : Int → Int → Bool} {P : Int → Prop} (hw : Weak lt P) (l : List Int) (hl : ∀ y ∈ l, P y) (i : Nat) (hi : i ≤ l.length) : (isl lt (l.take i)).Pairwise fun a b => lt b a = false := by
  induction i with
  | zero => simp [isl]
  | succ i ih =>
    rw [isl_take_succ lt l i (by omega)]
    exact ins_sorted hw (hl _ (List.getElem_mem _)) (fun y hy => hl y (List.mem_of_mem_take ((isl_perm lt _).mem_iff.mp hy))) (ih (by omega))
theorem rd_app (A C : List Int) (x : Int) : rd (A ++ x :: C) (A.length : Int) = x := by
  rw [rd_nat _ _ (by simp)]; simp
theorem swap_app (A C : List Int) (y x : Int) : ((A ++ [y] ++ x :: C).set (A.length + 1) y).set A.length x = A ++ x :: y :: C := by
  rw [List.append_assoc, List.set_append_right _ _ (by omega), show A.length + 1 - A.length = 1 by omega]
  rw [List.set_append_right _ _ (Nat.le_refl _), Nat.sub_self]
  simp
structure Inserts (cmp : Int → Int → Option Int) (n : Nat) (g0 : Nat → List Int → Int → Option (List Int)) (g1 : Nat → List Int → Int → Int → Option (List Int)) : Prop where
  h0 : ∀ k x i, g0 (k + 1) x i = if i < (n : Int) then g1 k x i i else some x
  h1 : ∀ k (x : List Int) (i j : Int), g1 (k + 1) x i j = if j > 0 then (if 0 ≤ j then (if j < (x.length : Int) then (if 0 ≤ (wrap64 (j - 1)) then (if (wrap64 (j - 1)) < (x.length : Int) then ((cmp (rd x j) (rd x (wrap64 (j - 1)))).bind fun t => (if t < 0 then (g1 k ((x.set (j : Int).toNat (rd x (wrap64 (j - 1)))).set ((wrap64 (j - 1)) : Int).toNat (rd x j)) i (wrap64 (j - 1))) else (g0 k x (wrap64 (i + 1))))) else (none)) else (none)) else (none)) else (none)) else (g0 k x (wrap64 (i + 1)))
theorem inserts_in {cmp : Int → Int → Option Int} {n : Nat} {g0 : Nat → List Int → Int → Option (List Int)} {g1 : Nat → List Int → Int → Int → Option (List Int)} (hg : Inserts cmp n g0 g1) {lt : Int → Int → Bool} {P : Int → Prop} (hw : Weak lt P)
    (hc : ∀ a b, P a → P b → ∃ t, cmp a b = some t ∧ lt a b = decide (t < 0)) (x i : Int) (D : List Int) (r : List Int) (hx : P x) (j : Nat) : ∀ (A B : List Int), A.length = j → j ≤ 1048576 → (∀ y ∈ A, P y) → (A.Pairwise fun a b => lt b a = false) → (∀ b ∈ B, lt x b = true) →
      Ev (fun k => g0 k (ins lt x (A ++ B) ++ D) (wrap64 (i + 1))) r → Ev (fun k => g1 k (A ++ x :: (B ++ D)) i (j : Int)) r := by
  induction j with
  | zero =>
    intro A B hA _ hP hs hB hd
    obtain rfl : A = [] := List.length_eq_zero_iff.mp hA
    refine Ev.succ ?_
    simp only [hg.h1]
    refine Ev.neg (by omega) ?_
    rw [ins_split lt x [] B (by simp) hB] at hd
    simpa using hd
  | succ j ih =>
    intro A B hA hj hP hs hB hd
    obtain ⟨A', y, rfl⟩ : ∃ A' y, A = A' ++ [y] := ⟨A.dropLast, A.getLast (by intro h; simp [h] at hA), (List.dropLast_concat_getLast _).symm⟩
    have hA' : A'.length = j := by simpa using hA
    refine Ev.succ ?_
    simp only [hg.h1]
    have hl : (A' ++ [y] ++ x :: (B ++ D)).length = j + 1 + (1 + (B ++ D).length) := by simp [hA']; omega
    rw [w64 (x := ((j + 1 : Nat) : Int) - 1) (by omega) (by omega), show ((j + 1 : Nat) : Int) - 1 = (j : Int) by omega]
    have r1 : rd (A' ++ [y] ++ x :: (B ++ D)) ((j + 1 : Nat) : Int) = x := by
      have := rd_app (A' ++ [y]) (B ++ D) x
      rw [hA] at this; exact this
    have r2 : rd (A' ++ [y] ++ x :: (B ++ D)) (j : Int) = y := by
      have := rd_app A' (x :: (B ++ D)) y
      rw [hA'] at this; simpa using this
    rw [r1, r2]
    obtain ⟨t, ht, hlt⟩ := hc x y hx (hP y (by simp))
    refine Ev.pos (by omega) (Ev.pos (by omega) (Ev.pos (by rw [hl]; omega) (Ev.pos (by omega) (Ev.pos (by rw [hl]; omega) (Ev.bind0 ht ?_)))))
    refine Ev.ite (fun h => ?_) (fun h => ?_)
    · rw [toNat_nat, toNat_nat, ← hA', swap_app, hA']
      have := ih A' (y :: B) hA' (by omega) (fun z hz => hP z (by simp [hz])) (List.pairwise_append.mp hs).1 (fun b hb => by
        rcases List.mem_cons.mp hb with rfl | hb
        · rw [hlt, decide_eq_true h]
        · exact hB b hb) (by simpa using hd)
      simpa using this
    · have hy : lt x y = false := by rw [hlt, decide_eq_false h]
      rw [ins_split lt x _ B (fun a ha => by
        rcases List.mem_append.mp ha with ha | ha
        · exact hw.nt x y a hx (hP y (by simp)) (hP a (by simp [ha])) hy ((List.pairwise_append.mp hs).2.2 a ha y (by simp))
        · obtain rfl : a = y := by simpa using ha
          exact hy) hB] at hd
      simpa using hd
theorem inserts_ev {cmp : Int → Int → Option Int} {n : Nat} {g0 : Nat → List Int → Int → Option (List Int)} {g1 : Nat → List Int → Int → Int → Option (List Int)} (hg : Inserts cmp n g0 g1) {lt : Int → Int → Bool} {P : Int → Prop} (hw : Weak lt P)
    (hc : ∀ a b, P a → P b → ∃ t, cmp a b = some t ∧ lt a b = decide (t < 0)) (l : List Int) (hn : l.length = n) (hl : n ≤ 1048576) (hP : ∀ y ∈ l, P y) : Ev (fun k => g0 k l 1) (isl lt l) := by
  rcases Nat.eq_zero_or_pos n with h0 | h0
  · refine Ev.succ ?_
    simp only [hg.h0]
    obtain rfl : l = [] := List.length_eq_zero_iff.mp (by omega)
    exact Ev.neg (by omega) (Ev.now _)
  have key := ev_up (n - 1) (fun k i => g0 k (isl lt (l.take (i + 1)) ++ l.drop (i + 1)) ((i + 1 : Nat) : Int)) (isl lt l) (fun _ => True) trivial ?_ ?_
  · rw [isl_take_succ lt l 0 (by omega)] at key
    have e : ins lt l[0] (isl lt (l.take 0)) ++ l.drop (0 + 1) = l := by
      simp only [List.take_zero, isl, List.foldl_nil, ins, List.takeWhile_nil, List.dropWhile_nil, List.nil_append, Nat.zero_add]
      rw [List.singleton_append, ← List.drop_eq_getElem_cons (by omega), List.drop_zero]
    rw [e] at key
    exact key
  · intro _
    refine Ev.succ ?_
    simp only [hg.h0]
    rw [show n - 1 + 1 = n by omega, ← hn, List.take_length, List.drop_length, List.append_nil]
    exact Ev.neg (by omega) (Ev.now _)
  · intro i hi _ hnx
    have hi' : i + 1 < l.length := by omega
    refine Ev.succ ?_
    simp only [hg.h0]
    refine Ev.pos (by omega) ?_
    rw [List.drop_eq_getElem_cons hi']
    have hlen : (isl lt (l.take (i + 1))).length = i + 1 := by rw [isl_length, List.length_take]; omega
    have := inserts_in hg hw hc l[i + 1] ((i + 1 : Nat) : Int) (l.drop (i + 1 + 1)) (isl lt l) (hP _ (List.getElem_mem _)) (i + 1) (isl lt (l.take (i + 1))) [] hlen (by omega)
      (fun y hy => hP y (List.mem_of_mem_take ((isl_perm lt _).mem_iff.mp hy))) (isl_sorted hw l hP (i + 1) (by omega)) (by simp) (by
        rw [List.append_nil, ← isl_take_succ lt l (i + 1) hi', w64 (by omega) (by omega)]
        exact hnx trivial)
    simpa using this

theorem isl_snoc (lt : Int → Int → Bool) (l : List Int) (x : Int) : isl lt (l ++ [x]) = ins lt x (isl lt l) := by
  unfold isl; rw [List.foldl_append, List.foldl_cons, List.foldl_nil]
def idx (n : Nat) : List Int := (List.range n).map fun (j : Nat) => (j : Int)
theorem idx_length (n : Nat) : (idx n).length = n := by simp [idx]
theorem idx_succ (n : Nat) : idx (n + 1) = idx n ++ [(n : Int)] := by simp [idx, List.range_succ]
theorem mem_idx (n : Nat) (x : Int) : x ∈ idx n ↔ 0 ≤ x ∧ x < (n : Int) := by
  simp only [idx, List.mem_map, List.mem_range]
  constructor
  · rintro ⟨a, h, rfl⟩; omega
  · rintro ⟨h1, h2⟩; exact ⟨x.toNat, by omega, by omega⟩
theorem isl_idx_mem (lt : Int → Int → Bool) (n : Nat) {x : Int} (h : x ∈ isl lt (idx n)) : 0 ≤ x ∧ x < (n : Int) := (mem_idx n x).mp ((isl_perm lt _).mem_iff.mp h)
theorem isl_idx_length (lt : Int → Int → Bool) (n : Nat) : (isl lt (idx n)).length = n := by rw [isl_length, idx_length]
theorem span_spec (p : Int → Bool) (s : List Int) : ∃ K, K ≤ s.length ∧ s.takeWhile p = s.take K ∧ s.dropWhile p = s.drop K ∧ (∀ j, ∀ h : j < s.length, j < K → p s[j] = true) ∧ (∀ h : K < s.length, p s[K] = false) := by
  induction s with
  | nil => exact ⟨0, by simp⟩
  | cons a s ih =>
    cases ha : p a with
    | true =>
      obtain ⟨K, h1, h2, h3, h4, h5⟩ := ih
      refine ⟨K + 1, by simp; omega, by simp [ha, h2], by simp [ha, h3], ?_, ?_⟩
      · intro j h hj
        cases j with
        | zero => exact ha
        | succ j => exact h4 j (by simpa using h) (by omega)
      · intro h; exact h5 (by simpa using h)
    | false =>
      refine ⟨0, by simp, by simp [ha], by simp [ha], ?_, ?_⟩
      · intro j h hj; omega
      · intro h; exact ha

def ltDown (values : List Int) (a b : Int) : Bool := decide (rd values b < rd values a)
theorem spec_l3Rank_ev (values : List Int) (h : values.length ≤ 1048576) : Ev (fun k => spec_l3Rank.f k values) (isl (ltDown values) (idx values.length)) := by
  unfold spec_l3Rank.f
  refine ev_up values.length (fun k i => spec_l3Rank.l0 k values (isl (ltDown values) (idx i)) values (values.length : Int) (i : Int)) _ (fun _ => True) trivial ?_ ?_
  · intro _
    refine Ev.succ ?_
    simp only [spec_l3Rank.l0]
    exact Ev.neg (by omega) (Ev.now _)
  · intro i hi _ hn
    refine Ev.succ ?_
    simp only [spec_l3Rank.l0]
    refine Ev.pos (by omega) (Ev.pos (by omega) (Ev.pos (by omega) ?_))
    have hm : ∀ x ∈ isl (ltDown values) (idx i), 0 ≤ x ∧ x < (i : Int) := fun x hx => isl_idx_mem _ _ hx
    have hl := isl_idx_length (ltDown values) i
    have hn' := hn trivial
    rw [idx_succ, isl_snoc, ins] at hn'
    revert hm hl hn'
    generalize isl (ltDown values) (idx i) = s
    intro hm hl hn'
    obtain ⟨K, h1, h2, h3, h4, h5⟩ := span_spec (fun y => !ltDown values (i : Int) y) s
    rw [h2, h3] at hn'
    have body : Ev (fun k => if ([] : List Int).length + (s.take K).length < 17592186044416 then ((some (([] : List Int) ++ s.take K : List Int)).bind fun y111 => (if y111.length < 17592186044416 then ((some (y111 ++ [(i : Int)] : List Int)).bind fun y114 => ((some (s.drop K : List Int)).bind fun y117 => (if y114.length + y117.length < 17592186044416 then (spec_l3Rank.l0 k values (y114 ++ y117) values (values.length : Int) (wrap64 ((i : Int) + 1))) else (none)))) else (none))) else (none)) (isl (ltDown values) (idx values.length)) := by
      refine Ev.pos (by simp; omega) (Ev.bind0 rfl (Ev.pos (by simp; omega) (Ev.bind0 rfl (Ev.bind0 rfl (Ev.pos (by simp; omega) ?_)))))
      rw [w64 (by omega) (by omega)]
      simpa using hn'
    refine ev_up K (fun k j => spec_l3Rank.l1 k values s (i : Int) (rd values (i : Int)) (j : Int) values (values.length : Int) (i : Int)) _ (fun _ => True) trivial ?_ ?_
    · intro _
      refine Ev.succ ?_
      simp only [spec_l3Rank.l1]
      refine Ev.ite (fun hc => ?_) (fun hc => ?_)
      · have hk : K < s.length := by omega
        have hx := hm _ (List.getElem_mem hk)
        have h6 := h5 hk
        rw [rd_nat _ _ hk]
        refine Ev.pos (by omega) (Ev.pos (by omega) (Ev.pos (by omega) (Ev.neg ?_ ?_)))
        · simp only [ltDown, Bool.not_eq_false', decide_eq_true_eq] at h6; omega
        · rw [toNat_nat]
          exact Ev.bind0 rfl (Ev.pos (by omega) (Ev.bind0 rfl body))
      · rw [toNat_nat]
        exact Ev.bind0 rfl (Ev.pos (by omega) (Ev.pos (by omega) (Ev.bind0 rfl body)))
    · intro j hj _ hnx
      have hk : j < s.length := by omega
      have hx := hm _ (List.getElem_mem hk)
      have h6 := h4 j hk hj
      refine Ev.succ ?_
      simp only [spec_l3Rank.l1]
      rw [rd_nat _ _ hk]
      refine Ev.pos (by omega) (Ev.pos (by omega) (Ev.pos (by omega) (Ev.pos (by omega) (Ev.pos ?_ ?_))))
      · simp only [ltDown, Bool.not_eq_true', decide_eq_false_iff_not] at h6; omega
      · rw [w64 (by omega) (by omega)]; exact hnx trivial

theorem rd_neg (l : List Int) (x : Int) (h0 : 0 ≤ x) : rd (l.map fun w => -w) x = - rd l x := by
  obtain ⟨n, rfl⟩ := exists_nat_of_nonneg h0
  rcases Nat.lt_or_ge n l.length with hn | hn
  · rw [rd_nat _ _ (by simpa using hn), rd_nat _ _ hn]; simp
  · simp [rd, hn]
theorem isl_congr_on {lt lt' : Int → Int → Bool} (l : List Int) (h : ∀ a ∈ l, ∀ b ∈ l, lt a b = lt' a b) : isl lt l = isl lt' l := by
  suffices hh : ∀ i, i ≤ l.length → isl lt (l.take i) = isl lt' (l.take i) by have := hh l.length (Nat.le_refl _); simpa using this
  intro i
  induction i with
  | zero => intro _; simp [isl]
  | succ i ih =>
    intro hi
    rw [isl_take_succ lt l i (by omega), isl_take_succ lt' l i (by omega), ih (by omega)]
    have hm : ∀ y ∈ isl lt' (l.take i), lt l[i] y = lt' l[i] y := fun y hy => h _ (List.getElem_mem _) _ (List.mem_of_mem_take ((isl_perm lt' _).mem_iff.mp hy))
    revert hm
    generalize isl lt' (l.take i) = s
    intro hm
    unfold ins
    have e1 : s.takeWhile (fun y => !lt l[i] y) = s.takeWhile (fun y => !lt' l[i] y) ∧ s.dropWhile (fun y => !lt l[i] y) = s.dropWhile (fun y => !lt' l[i] y) := by
      clear ih h
      induction s with
      | nil => simp
      | cons a s ih =>
        have h1 := hm a (by simp)
        have h2 := ih fun y hy => hm y (by simp [hy])
        simp only [List.takeWhile_cons, List.dropWhile_cons, h1, h2.1, h2.2, and_self]
    rw [e1.1, e1.2]

def ltG (picks counts : List Int) (a b : Int) : Bool := decide (rd picks b * rd counts a < rd picks a * rd counts b)

theorem spec_l1Has_ev (l : List Int) (a : Int) (hl : l.length ≤ 4611686018427387904) : Ev (fun k => spec_l1Has.f k l a) (decide (a ∈ l)) := by
  unfold spec_l1Has.f
  have gen : ∀ (d i : Nat), i + d = l.length → Ev (fun k => spec_l1Has.l0 k a l (l.length : Int) (i : Int)) (decide (a ∈ l.drop i)) := by
    intro d
    induction d with
    | zero =>
      intro i hi
      rw [List.drop_of_length_le (by omega)]
      refine Ev.succ ?_
      simp only [spec_l1Has.l0]; exact Ev.neg (by omega) (Ev.now _)
    | succ d ih =>
      intro i hi
      have hi' : i < l.length := by omega
      rw [List.drop_eq_getElem_cons hi']
      refine Ev.succ ?_
      simp only [spec_l1Has.l0]
      refine Ev.pos (by omega) (Ev.pos (by omega) (Ev.pos (by omega) ?_))
      rw [rd_nat l i hi', w64 (by omega) (by omega)]
      refine Ev.ite (fun h => ?_) (fun h => ?_)
      · rw [h]; simpa using Ev.now true
      · have := ih (i + 1) (by omega)
        have e : decide (a ∈ l[i] :: l.drop (i + 1)) = decide (a ∈ l.drop (i + 1)) := by
          rw [decide_eq_decide, List.mem_cons]; constructor
          · rintro (h2 | h2)
            · exact absurd h2.symm h
            · exact h2
          · exact .inr
        rw [e]; exact this
  simpa using gen l.length 0 (by omega)

def wayOf (a b c d : Int) : Int := if a = c then ((b - d).natAbs : Int) else 3 * ((a - c).natAbs : Int) + (if 40 - (b + d) < b + d then 40 - (b + d) else b + d)
def spotOk (a b : Int) : Bool := (decide (0 ≤ a) && decide (a ≤ 9)) && (decide (0 ≤ b) && decide (b ≤ 20))

def dot : List Int → List Int → Int
  | a :: tl_, b :: bs => a * b + dot tl_ bs
  | _, _ => 0
theorem dot_mid (v q : List Int) (x a b : Int) : ∀ (u p : List Int), u.length = p.length → dot (u ++ x :: v) (p ++ a :: q) = dot (u ++ x :: v) (p ++ b :: q) + x * (a - b) := by
  intro u
  induction u with
  | nil =>
    intro p hp
    obtain rfl : p = [] := List.length_eq_zero_iff.mp (by simpa using hp.symm)
    simp only [List.nil_append, dot]
    rw [Int.mul_sub]; omega
  | cons c u ih =>
    intro p hp
    cases p with
    | nil => simp at hp
    | cons d p =>
      simp only [List.cons_append, dot]
      rw [ih p (by simpa using hp)]; omega
theorem split_at {α : Type} (l : List α) (n : Nat) (h : n < l.length) : ∃ u x v, l = u ++ x :: v ∧ u.length = n :=
  ⟨l.take n, l[n], l.drop (n + 1), by rw [← List.drop_eq_getElem_cons h, List.take_append_drop], by rw [List.length_take]; omega⟩
theorem rearr : ∀ (w a b : List Int), w.Pairwise (fun x y => x ≤ y) → a.Pairwise (fun x y => y ≤ x) → a.Perm b → a.length = w.length → dot w a ≤ dot w b := by
  intro w
  induction w with
  | nil =>
    intro a b _ _ hp hl
    obtain rfl : a = [] := List.length_eq_zero_iff.mp hl
    obtain rfl : b = [] := hp.symm.eq_nil
    exact Int.le_refl _
  | cons w0 ws ih =>
    intro a b hw ha hp hl
    cases a with
    | nil => simp at hl
    | cons a0 tl_ =>
      have hl' : tl_.length = ws.length := by simpa using hl
      obtain ⟨hw0, hws⟩ := List.pairwise_cons.mp hw
      obtain ⟨ha0, has⟩ := List.pairwise_cons.mp ha
      obtain ⟨p, q, rfl⟩ := List.append_of_mem (hp.mem_iff.mp (List.mem_cons_self : a0 ∈ a0 :: tl_))
      have h1 : tl_.Perm (p ++ q) := List.Perm.cons_inv (hp.trans List.perm_middle)
      cases p with
      | nil =>
        have := ih tl_ q hws has h1 hl'
        simp only [List.nil_append, dot]; omega
      | cons b0 p =>
        have hb0 : b0 ≤ a0 := ha0 b0 (h1.mem_iff.mpr (by simp))
        have h2 : tl_.Perm (p ++ b0 :: q) := h1.trans (by rw [List.cons_append]; exact List.perm_middle.symm)
        have h3 := ih tl_ (p ++ b0 :: q) hws has h2 hl'
        have hlen : p.length < ws.length := by have := h2.length_eq; simp at this; omega
        obtain ⟨u, x, v, rfl, hu⟩ := split_at ws p.length hlen
        have h4 := dot_mid v q x a0 b0 u p hu
        have hx := hw0 x (by simp)
        have h5 : w0 * (a0 - b0) ≤ x * (a0 - b0) := Int.mul_le_mul_of_nonneg_right hx (by omega)
        rw [Int.mul_sub w0] at h5
        simp only [List.cons_append, dot]
        omega
theorem dot_map (S : List Int) (f g : Int → Int) : dot (S.map f) (S.map g) = (S.map fun s => f s * g s).sum := by
  induction S with
  | nil => rfl
  | cons a S ih => simp only [List.map_cons, dot, List.sum_cons, ih]
theorem idx_zero_succ (n : Nat) : idx (n + 1) = 0 :: (idx n).map (fun x => x + 1) := by
  unfold idx
  rw [List.range_succ_eq_map]
  simp [List.map_map, Function.comp_def]
theorem rd_cons_succ (a : Int) (l : List Int) (x : Int) (h : 0 ≤ x) : rd (a :: l) (x + 1) = rd l x := by
  obtain ⟨n, rfl⟩ := exists_nat_of_nonneg h
  rw [show (n : Int) + 1 = ((n + 1 : Nat) : Int) by omega]
  rcases Nat.lt_or_ge n l.length with hn | hn
  · rw [rd_nat _ _ (by simp; omega), rd_nat _ _ hn]; rfl
  · simp [rd, hn]
theorem dot_idx : ∀ (w L : List Int), w.length = L.length → dot w L = ((idx w.length).map fun s => rd w s * rd L s).sum := by
  intro w
  induction w with
  | nil => intro L _; simp [dot, idx]
  | cons a w ih =>
    intro L hl
    cases L with
    | nil => simp at hl
    | cons b L =>
      have hl' : w.length = L.length := by simpa using hl
      rw [List.length_cons, idx_zero_succ, List.map_cons, List.sum_cons, dot, ih L hl']
      have e : ((idx w.length).map (fun x => x + 1)).map (fun s => rd (a :: w) s * rd (b :: L) s) = (idx w.length).map fun s => rd w s * rd L s := by
        rw [List.map_map]
        refine List.map_congr_left fun x hx => ?_
        have := (mem_idx _ _).mp hx
        simp only [Function.comp_apply]
        rw [rd_cons_succ _ _ _ this.1, rd_cons_succ _ _ _ this.1]
      rw [e]
      have e0 : ∀ (c : Int) (l : List Int), rd (c :: l) 0 = c := fun c l => by have := rd_nat (c :: l) 0 (by simp); simpa using this
      rw [e0, e0]
theorem perm_sum {l l' : List Int} (h : l.Perm l') : l.sum = l'.sum := by
  induction h with
  | nil => rfl
  | cons a _ ih => simp [ih]
  | swap a b l => simp only [List.sum_cons]; omega
  | trans _ _ h1 h2 => rw [h1, h2]
theorem dot_perm (w L S : List Int) (hl : w.length = L.length) (hS : S.Perm (idx w.length)) : dot w L = dot (S.map (rd w)) (S.map (rd L)) := by
  rw [dot_idx w L hl, dot_map]
  exact perm_sum (hS.symm.map _)
def writeAll : List Int → List Int → List Int → List Int
  | s :: ss, g :: gs, out => writeAll ss gs (out.set s.toNat g)
  | _, _, out => out
theorem writeAll_nil (S out : List Int) : writeAll S [] out = out := by cases S <;> rfl
theorem writeAll_length (S : List Int) : ∀ G out : List Int, (writeAll S G out).length = out.length := by
  induction S with
  | nil => intro G out; rfl
  | cons s S ih =>
    intro G out
    cases G with
    | nil => rfl
    | cons g G => rw [writeAll, ih, List.length_set]
theorem rd_setL (l : List Int) (i j : Int) (v : Int) (h0 : 0 ≤ i) (hi : i < l.length) (hj : 0 ≤ j) : rd (l.set i.toNat v) j = if j = i then v else rd l j := by
  obtain ⟨a, rfl⟩ := exists_nat_of_nonneg h0
  obtain ⟨b, rfl⟩ := exists_nat_of_nonneg hj
  rw [toNat_nat]
  have ha : a < l.length := by omega
  rcases Nat.lt_or_ge b l.length with hb | hb
  · rw [rd_nat _ _ (by simpa using hb), rd_nat _ _ hb, List.getElem_set]
    by_cases e : a = b
    · subst e; simp
    · rw [if_neg e, if_neg (by omega)]
  · rw [if_neg (by omega)]; simp [rd, hb]
theorem writeAll_other (S : List Int) : ∀ (G out : List Int) (j : Int), (∀ s ∈ S, 0 ≤ s ∧ s < (out.length : Int)) → 0 ≤ j → j ∉ S → rd (writeAll S G out) j = rd out j := by
  induction S with
  | nil => intro G out j _ _ _; rfl
  | cons s S ih =>
    intro G out j hs hj hn
    cases G with
    | nil => rfl
    | cons g G =>
      rw [writeAll, ih G _ j (by rw [List.length_set]; exact fun x hx => hs x (by simp [hx])) hj (fun h => hn (by simp [h]))]
      have h1 := hs s (by simp)
      rw [rd_setL _ _ _ _ h1.1 h1.2 hj, if_neg (fun e => hn (by simp [e]))]
theorem writeAll_read (S : List Int) : ∀ (G out : List Int), S.Nodup → (∀ s ∈ S, 0 ≤ s ∧ s < (out.length : Int)) → G.length = S.length → S.map (rd (writeAll S G out)) = G := by
  induction S with
  | nil => intro G out _ _ hl; exact (List.length_eq_zero_iff.mp (by simpa using hl)).symm
  | cons s S ih =>
    intro G out hn hs hl
    cases G with
    | nil => simp at hl
    | cons g G =>
      obtain ⟨h1, h2⟩ := List.nodup_cons.mp hn
      have hs0 := hs s (by simp)
      have hs' : ∀ x ∈ S, 0 ≤ x ∧ x < ((out.set s.toNat g).length : Int) := by rw [List.length_set]; exact fun x hx => hs x (by simp [hx])
      rw [List.map_cons, writeAll, ih G _ h2 hs' (by simpa using hl), writeAll_other S G _ s hs' hs0.1 h1, rd_setL _ _ _ _ hs0.1 hs0.2 hs0.1, if_pos rfl]
theorem idx_nodup (n : Nat) : (idx n).Nodup := by
  unfold idx
  refine List.Pairwise.map _ ?_ List.nodup_range
  intro a b h; omega
theorem isl_idx_nodup (lt : Int → Int → Bool) (n : Nat) : (isl lt (idx n)).Nodup := (isl_perm lt _).nodup_iff.mpr (idx_nodup n)
theorem map_rd_idx (l : List Int) : (idx l.length).map (rd l) = l := by
  apply List.ext_getElem
  · simp [idx_length]
  · intro i h1 h2
    simp only [List.getElem_map]
    have : (idx l.length)[i]'(by rw [idx_length]; exact h2) = (i : Int) := by simp [idx]
    rw [this, rd_nat _ _ h2]
theorem isl_map_asc (ways : List Int) (n : Nat) (hn : n ≤ ways.length) : ((isl (fun a b => decide (rd ways a < rd ways b)) (idx n)).map (rd ways)).Pairwise (fun x y => x ≤ y) := by
  have hw : Weak (fun a b => decide (rd ways a < rd ways b)) (fun _ => True) := ⟨fun a b c _ _ _ h1 h2 => by simp only [decide_eq_false_iff_not] at h1 h2 ⊢; omega, fun a b _ _ h => by simp only [decide_eq_true_eq, decide_eq_false_iff_not] at h ⊢; omega⟩
  have := isl_sorted hw (idx n) (fun _ _ => trivial) (idx n).length (Nat.le_refl _)
  rw [List.take_length] at this
  refine List.Pairwise.map _ ?_ this
  intro a b h; simp only [decide_eq_false_iff_not] at h; omega

theorem isl_map_desc (values : List Int) (n : Nat) (hn : n ≤ values.length) : ((isl (ltDown values) (idx n)).map (rd values)).Pairwise (fun x y => y ≤ x) := by
  have hw : Weak (ltDown values) (fun _ => True) := ⟨fun a b c _ _ _ h1 h2 => by simp only [ltDown, decide_eq_false_iff_not] at h1 h2 ⊢; omega, fun a b _ _ h => by simp only [ltDown, decide_eq_true_eq, decide_eq_false_iff_not] at h ⊢; omega⟩
  have := isl_sorted hw (idx n) (fun _ _ => trivial) (idx n).length (Nat.le_refl _)
  rw [List.take_length] at this
  refine List.Pairwise.map _ ?_ this
  intro a b h; simp only [ltDown, decide_eq_false_iff_not] at h; omega

theorem nodup_sub_perm {l : List Int} : ∀ {r : List Int}, l.Nodup → (∀ x ∈ l, x ∈ r) → r.length ≤ l.length → l.Perm r := by
  induction l with
  | nil =>
    intro r _ _ hl
    obtain rfl : r = [] := List.length_eq_zero_iff.mp (by simpa using hl)
    exact List.Perm.refl _
  | cons a l ih =>
    intro r hn hs hl
    obtain ⟨h1, h2⟩ := List.nodup_cons.mp hn
    obtain ⟨p, q, rfl⟩ := List.append_of_mem (hs a (by simp))
    have : l.Perm (p ++ q) := ih h2 (fun x hx => by
      have h3 := hs x (by simp [hx])
      have hne : x ≠ a := fun e => h1 (e ▸ hx)
      simp only [List.mem_append, List.mem_cons] at h3 ⊢
      rcases h3 with h3 | h3 | h3
      · exact .inl h3
      · exact absurd h3 hne
      · exact .inr h3) (by simp at hl ⊢; omega)
    exact (this.cons a).trans List.perm_middle.symm
theorem sorted_perm_eq : ∀ {a b : List Int}, a.Pairwise (fun x y => x ≤ y) → b.Pairwise (fun x y => x ≤ y) → a.Perm b → a = b
  | [], b, _, _, hp => hp.symm.eq_nil.symm
  | x :: a, [], _, _, hp => absurd hp.eq_nil (by simp)
  | x :: a, y :: b, ha, hb, hp => by
    obtain ⟨h1, h2⟩ := List.pairwise_cons.mp ha
    obtain ⟨h3, h4⟩ := List.pairwise_cons.mp hb
    have e : x = y := by
      have m1 := hp.mem_iff.mp (List.mem_cons_self : x ∈ x :: a)
      have m2 := hp.mem_iff.mpr (List.mem_cons_self : y ∈ y :: b)
      rcases List.mem_cons.mp m1 with e | m1
      · exact e
      · rcases List.mem_cons.mp m2 with e | m2
        · exact e.symm
        · have := h1 y m2; have := h3 x m1; omega
    subst e
    rw [sorted_perm_eq h2 h4 hp.cons_inv]
def isOrd (l : List Int) (m : Int) : Prop := (l.length : Int) = m ∧ l.Perm (idx l.length)
instance (l : List Int) (m : Int) : Decidable (isOrd l m) := by unfold isOrd; infer_instance
theorem idx_asc (n : Nat) : (idx n).Pairwise (fun x y => x ≤ y) := by
  unfold idx
  refine List.Pairwise.map _ ?_ (List.pairwise_lt_range (n := n))
  intro a b h; omega
theorem perm_idx_iff (l : List Int) : l.Perm (idx l.length) ↔ l.Nodup ∧ ∀ x ∈ l, 0 ≤ x ∧ x < (l.length : Int) := by
  constructor
  · intro h
    exact ⟨h.nodup_iff.mpr (idx_nodup _), fun x hx => (mem_idx _ _).mp (h.mem_iff.mp hx)⟩
  · rintro ⟨h1, h2⟩
    exact nodup_sub_perm h1 (fun x hx => (mem_idx _ _).mpr (h2 x hx)) (by rw [idx_length]; exact Nat.le_refl _)
theorem nodup_take_succ (l : List Int) (i : Nat) (h : i < l.length) : (l.take (i + 1)).Nodup ↔ (l.take i).Nodup ∧ l[i] ∉ l.take i := by
  rw [List.take_succ_eq_append_getElem h]
  constructor
  · intro hn
    have := List.pairwise_append.mp hn
    exact ⟨this.1, fun hm => this.2.2 _ hm _ (by simp) rfl⟩
  · rintro ⟨h1, h2⟩
    exact List.pairwise_append.mpr ⟨h1, by simp, fun a ha b hb e => h2 (by have hb' : b = l[i] := by simpa using hb
                                                                           rw [← hb', ← e]; exact ha)⟩
theorem set_swap_perm (l : List Int) (i k : Nat) (hi : i < l.length) (hk : k < l.length) : ((l.set i l[k]).set k l[i]).Perm l := by
  rw [List.perm_iff_count]
  intro x
  by_cases e : i = k
  · subst e
    have : (l.set i l[i]).set i l[i] = l := by rw [List.set_set, List.set_getElem_self]
    rw [this]
  · rw [List.count_set (by simpa using hk), List.count_set hi]
    have e1 : (l.set i l[k])[k]'(by simpa using hk) = l[k] := by rw [List.getElem_set_ne e]
    rw [e1]
    have c1 : (if l[i] == x then 1 else 0) ≤ l.count x := by
      split
      · rename_i h
        have : x ∈ l := by have := eq_of_beq h; rw [← this]; exact List.getElem_mem hi
        exact List.count_pos_iff.mpr this
      · omega
    omega

theorem srt_sorted_iff (l : List Int) : srt.sorted l = srt.upNat l.length ↔ l.Perm (idx l.length) := by
  have hp : (srt.sorted l).Perm l := List.mergeSort_perm _ _
  have hs : (srt.sorted l).Pairwise (fun x y => x ≤ y) := by
    have := List.pairwise_mergeSort (le := fun x y : Int => decide (x ≤ y)) (fun a b c h1 h2 => by simp only [decide_eq_true_eq] at h1 h2 ⊢; omega) (fun a b => by simp only [Bool.or_eq_true, decide_eq_true_eq]; omega) l
    exact this.imp (fun h => by simpa using h)
  constructor
  · intro h; exact hp.symm.trans (by rw [h]; exact List.Perm.refl _)
  · intro h; exact sorted_perm_eq hs (idx_asc _) (hp.trans h)
theorem impl_isOrder_eq (l : List Int) (m : Int) (hl : l.length ≤ 1048576) : impl_isOrder.f l m = some (decide (isOrd l m)) := by
  unfold impl_isOrder.f
  rw [if_pos hl]
  congr 1
  rw [Bool.eq_iff_iff, Bool.and_eq_true, decide_eq_true_eq, decide_eq_true_eq, decide_eq_true_eq, srt_sorted_iff]
  exact And.comm

theorem spec_l7Order_ev (l : List Int) (m : Int) (hl : l.length ≤ 1048576) : Ev (fun k => spec_l7Order.f k l m) (decide (isOrd l m)) := by
  unfold spec_l7Order.f
  refine Ev.ite (fun h => ?_) (fun h => Ev.to (Ev.now _) (decide_eq_false fun q => h q.1).symm)
  subst h
  refine ev_up l.length (fun k i => spec_l7Order.l0 k l (l.length : Int) l (l.length : Int) (i : Int)) _ (fun i => (l.take i).Nodup ∧ ∀ x ∈ l.take i, 0 ≤ x ∧ x < (l.length : Int)) (by simp) ?_ ?_
  · intro hI
    rw [List.take_length] at hI
    refine Ev.succ ?_
    simp only [spec_l7Order.l0]
    exact Ev.neg (by omega) (Ev.to (Ev.now _) (decide_eq_true ⟨rfl, (perm_idx_iff l).mpr hI⟩).symm)
  · intro i hi hI hn
    refine Ev.succ ?_
    simp only [spec_l7Order.l0]
    rw [rd_nat _ _ hi, w64 (x := (l.length : Int) - 1) (by omega) (by omega), w64n hi (by omega), toNat_nat]
    refine Ev.pos (by omega) (Ev.pos (by omega) (Ev.pos (by omega) (Ev.bind0 (spec_l1In_eq _ _ _) ?_)))
    refine Ev.ite (fun hr => Ev.pos (by omega) (Ev.bind (spec_l1Has_ev _ _ (by rw [List.length_take]; omega)) (Ev.ite (fun hh => ?_) (fun hh => ?_)))) (fun hr => ?_)
    · have hh' : l[i] ∈ l.take i := by simpa using hh
      refine Ev.to (Ev.now _) (decide_eq_false fun q => ?_).symm
      have h1 := ((perm_idx_iff l).mp q.2).1
      have h2 : (l.take (i + 1)).Nodup := h1.sublist (List.take_sublist _ _)
      exact ((nodup_take_succ l i hi).mp h2).2 hh'
    · have hh' : l[i] ∉ l.take i := by simpa using hh
      have hr' : 0 ≤ l[i] ∧ l[i] ≤ (l.length : Int) - 1 := by simpa using hr
      refine hn ⟨(nodup_take_succ l i hi).mpr ⟨hI.1, hh'⟩, fun x hx => ?_⟩
      rw [List.take_succ_eq_append_getElem hi] at hx
      rcases List.mem_append.mp hx with hx | hx
      · exact hI.2 x hx
      · have : x = l[i] := by simpa using hx
        omega
    · refine Ev.to (Ev.now _) (decide_eq_false fun q => hr ?_).symm
      have := ((perm_idx_iff l).mp q.2).2 l[i] (List.getElem_mem hi)
      simp only [Bool.and_eq_true, decide_eq_true_eq]; omega

def ordF (l : List Int) (m : Int) : Bool × Bool := if 0 ≤ m ∧ m ≤ 10 then (decide (isOrd l m), true) else (false, false)

theorem impl_IsOrder_eq (l : List Int) (m : Int) (hl : l.length ≤ 1048576) : impl_IsOrder.f l m = some (ordF l m) := by
  unfold impl_IsOrder.f ordF
  rw [impl_within_eq, impl_isOrder_eq l m hl]
  by_cases h : 0 ≤ m ∧ m ≤ 10
  · rw [if_pos h, decide_eq_true h.1, decide_eq_true h.2]; rfl
  · rw [if_neg h]
    have : (decide (0 ≤ m) && decide (m ≤ 10)) = false := by
      rw [Bool.eq_false_iff]; intro q; simp only [Bool.and_eq_true, decide_eq_true_eq] at q; exact h q
    rw [this]; rfl

theorem cur_order7 (l : List Int) (a s : Int) (n : Nat) (hl : bytesOk l) (ha : 0 ≤ a ∧ a ≤ 4611686018427387000) (hn : n ≤ 100) :
    ∃ r a' s', Ev (fun k => spec_l1Cur_order7.f k l a s (n : Int)) (r, a', s') ∧ r.length = n ∧ a ≤ a' ∧ a' ≤ a + 60 := by
  -- the end
  have fin : ∀ (x : List Int) (t a s : Int), x.length = n → 0 ≤ a ∧ a ≤ 4611686018427387100 → ∃ r a' s', Ev (fun k => spec_l1Cur_order7.j2 k (n : Int) x t false l a s) (r, a', s') ∧ r.length = n ∧ a ≤ a' ∧ a' ≤ a + 4 := by
    intro x t a s hx ha
    by_cases h0 : (n : Int) > 0
    · obtain ⟨b, a1, s1, e1, h1⟩ := cur_one l a s 20 hl (by omega)
      cases b with
      | true =>
        obtain ⟨v, a2, s2, e2, h2, h3, h4⟩ := cur_pick l a1 s1 ((n : Int) + 2) hl (by omega)
        refine ⟨x.set (0 : Int).toNat (wrap64 (v - 1)), a2, s2, Ev.succ ?_, by rw [List.length_set]; exact hx, by omega, by omega⟩
        simp only [spec_l1Cur_order7.j2, Bool.false_eq_true, if_false]
        rw [w64 (x := (n : Int) + 2) (by omega) (by omega)]
        exact Ev.pos h0 (Ev.bind0 e1 (Ev.pos rfl (Ev.bind0 e2 (Ev.pos (by omega) (Ev.now _)))))
      | false =>
        refine ⟨x, a1, s1, Ev.succ ?_, hx, by omega, by omega⟩
        simp only [spec_l1Cur_order7.j2, Bool.false_eq_true, if_false]
        exact Ev.pos h0 (Ev.bind0 e1 (Ev.neg (by simp) (Ev.now _)))
    · refine ⟨x, a, s, Ev.succ ?_, hx, by omega, by omega⟩
      simp only [spec_l1Cur_order7.j2, Bool.false_eq_true, if_false]
      exact Ev.neg h0 (Ev.now _)
  -- the swaps
  have sw : ∀ (d : Nat) (x : List Int) (a s : Int), x.length = n → 0 ≤ a ∧ a + 4 * d ≤ 4611686018427387050 → ∃ r a' s', Ev (fun k => spec_l1Cur_order7.l1 k (n : Int) x (d : Int) l a s) (r, a', s') ∧ r.length = n ∧ a ≤ a' ∧ a' ≤ a + 4 * d + 4 := by
    intro d
    induction d with
    | zero =>
      intro x a s hx ha
      obtain ⟨r, a', s', e, h⟩ := fin x 0 a s hx (by omega)
      refine ⟨r, a', s', Ev.succ ?_, h.1, h.2.1, by omega⟩
      simp only [spec_l1Cur_order7.l1]
      exact Ev.neg (by omega) e
    | succ d ih =>
      intro x a s hx ha
      by_cases h1 : (n : Int) > 1
      · obtain ⟨i, a1, s1, e1, i1, i2, i3⟩ := cur_pick l a s (n : Int) hl (by omega)
        obtain ⟨j, a2, s2, e2, j1, j2, j3⟩ := cur_pick l a1 s1 (n : Int) hl (by omega)
        obtain ⟨r, a', s', e, h⟩ := ih ((x.set i.toNat (rd x j)).set j.toNat (rd x i)) a2 s2 (by simp [hx]) (by omega)
        refine ⟨r, a', s', Ev.succ ?_, h.1, by omega, by omega⟩
        simp only [spec_l1Cur_order7.l1]
        refine Ev.pos (by omega) (Ev.succ ?_)
        rw [decide_eq_true h1]
        simp only [spec_l1Cur_order7.j2, if_true]
        refine Ev.bind0 e1 (Ev.bind0 e2 (Ev.pos (by omega) (Ev.pos (by omega) (Ev.pos (by omega) (Ev.pos (by omega) ?_)))))
        rw [w64 (by omega) (by omega), show ((d + 1 : Nat) : Int) - 1 = (d : Int) by omega]
        exact e
      · obtain ⟨r, a', s', e, h⟩ := fin x ((d + 1 : Nat) : Int) a s hx (by omega)
        refine ⟨r, a', s', Ev.succ ?_, h.1, by omega, by omega⟩
        simp only [spec_l1Cur_order7.l1]
        rw [decide_eq_false h1]
        exact Ev.pos (by omega) e
  obtain ⟨t, a1, s1, e1, t1, t2, t3⟩ := cur_pick l a s 6 hl (by omega)
  obtain ⟨r, a', s', e, h⟩ := sw t.toNat (idx n) a1 s1 (idx_length n) (by omega)
  rw [show ((t.toNat : Nat) : Int) = t by omega] at e
  refine ⟨r, a', s', ?_, h.1, by omega, by omega⟩
  unfold spec_l1Cur_order7.f
  refine ev_up n (fun k i => spec_l1Cur_order7.l0 k (n : Int) (idx i) (i : Int) l a s) _ (fun _ => True) trivial ?_ ?_
  · intro _
    refine Ev.succ ?_
    simp only [spec_l1Cur_order7.l0]
    exact Ev.neg (by omega) (Ev.bind0 e1 e)
  · intro i hi _ hn'
    refine Ev.succ ?_
    simp only [spec_l1Cur_order7.l0]
    refine Ev.pos (by omega) (Ev.pos (by rw [idx_length]; omega) ?_)
    rw [w64 (by omega) (by omega), ← idx_succ]
    exact hn' trivial

def fits (p : Int × Int) : Int × Int × Bool := if goodFrac p.1 p.2 = true then (p.1, p.2, true) else (0, 0, false)
def bothGood (a b c d : Int) : Bool := goodFrac a b && goodFrac c d
def addF (a b c d : Int) : Int × Int × Bool := if bothGood a b c d = true then fits (lowNum (a * d + c * b) (b * d), lowDen (a * d + c * b) (b * d)) else (0, 0, false)
def subF (a b c d : Int) : Int × Int × Bool := if bothGood a b c d = true then fits (lowNum (a * d - c * b) (b * d), lowDen (a * d - c * b) (b * d)) else (0, 0, false)
def mulF (a b c d : Int) : Int × Int × Bool := if bothGood a b c d = true then fits (lowNum (a * c) (b * d), lowDen (a * c) (b * d)) else (0, 0, false)
def divF (a b c d : Int) : Int × Int × Bool := if bothGood a b c d = true ∧ c ≠ 0 then fits (lowNum (a * d) (b * c), lowDen (a * d) (b * c)) else (0, 0, false)
def lessF (a b c d : Int) : Bool × Bool := if bothGood a b c d = true then (decide (a * d < c * b), true) else (false, false)
def floorF (a b : Int) : Int × Bool := if goodFrac a b = true then (a / b, true) else (0, false)

def sumF : List (Int × Int) → Int × Int → Int × Int × Bool
  | [], s => (s.1, s.2, true)
  | x :: l, s => if (addF s.1 s.2 x.1 x.2).2.2 = true then sumF l ((addF s.1 s.2 x.1 x.2).1, (addF s.1 s.2 x.1 x.2).2.1) else (0, 0, false)

def sumsF (l : List (Int × Int)) : Int × Int × Bool := if l.length ≤ 50 then sumF l (0, 1) else (0, 0, false)

def isD (D : Int) (x : Int × Int) (t : Int) : Prop := 1 ≤ x.2 ∧ x.1 * D = x.2 * t

def bump (flow counts : List Int) : List Int := counts.set (nextOf flow counts) (counts[nextOf flow counts]! + 1)
def shareUp (flow : List Int) : Nat → List Int
  | 0 => List.replicate flow.length 1
  | i + 1 => bump flow (shareUp flow i)
def shareOf (flow : List Int) (places : Int) : List Int := shareUp flow (places - flow.length).toNat
def kindsOk (flow : List Int) (places : Int) : Bool := flowOk flow && (decide ((flow.length : Int) ≤ places) && decide (places ≤ 40))

def jn (E : List (Nat × Nat)) (T : Nat → Bool) : Nat → Nat → Prop
  | 0, u => T u = true
  | n + 1, u => T u = true ∨ ∃ v, ((u, v) ∈ E ∨ (v, u) ∈ E) ∧ jn E T n v
def Jn (E : List (Nat × Nat)) (T : Nat → Bool) (u : Nat) : Prop := ∃ n, jn E T n u
theorem Jn.base {E : List (Nat × Nat)} {T : Nat → Bool} {u : Nat} (h : T u = true) : Jn E T u := ⟨0, h⟩
theorem Jn.step {E : List (Nat × Nat)} {T : Nat → Bool} {u v : Nat} (h : (u, v) ∈ E ∨ (v, u) ∈ E) (k : Jn E T v) : Jn E T u := by
  obtain ⟨n, hn⟩ := k; exact ⟨n + 1, .inr ⟨v, h, hn⟩⟩
theorem Jn.rule {E : List (Nat × Nat)} {T : Nat → Bool} {P : Nat → Prop} (hb : ∀ u, T u = true → P u)
    (hs : ∀ u v, ((u, v) ∈ E ∨ (v, u) ∈ E) → Jn E T v → P v → P u) {u : Nat} (h : Jn E T u) : P u := by
  obtain ⟨n, hn⟩ := h
  induction n generalizing u with
  | zero => exact hb u hn
  | succ n ih =>
    rcases hn with h | ⟨v, h, hv⟩
    · exact hb u h
    · exact hs u v h ⟨n, hv⟩ (ih hv)
theorem Jn.trans {E E' : List (Nat × Nat)} {T T' : Nat → Bool} {u : Nat} (h : Jn E T u) (k : ∀ x, T x = true → Jn E' T' x) (hE : ∀ e ∈ E, e ∈ E') : Jn E' T' u :=
  h.rule k fun _ _ he _ p => Jn.step (he.imp (hE _) (hE _)) p
theorem Jn.move {E : List (Nat × Nat)} {J : Nat → Bool} {v x s : Nat} {e : Nat × Nat} (hxs : e = (x, s) ∨ e = (s, x)) (hs : J s = true)
    (hj : Jn (E.erase e) (fun u => decide (u = v)) x) {u : Nat} (h : Jn E J u) : Jn (E.erase e) (fun y => J y || decide (y = v)) u := by
  have hx : Jn (E.erase e) (fun y => J y || decide (y = v)) x := hj.trans (fun y hy => Jn.base (by simp at hy; simp [hy])) (fun _ h => h)
  have hss : Jn (E.erase e) (fun y => J y || decide (y = v)) s := Jn.base (by simp [hs])
  refine h.rule (P := fun u => Jn (E.erase e) (fun y => J y || decide (y = v)) u) (fun u hu => Jn.base (by simp [hu])) ?_
  intro u w hf _ ih
  by_cases h1 : (u, w) = e
  · rcases hxs with h2 | h2 <;> rw [h2] at h1 <;> injection h1 with h3 h4
    · rw [h3]; exact hx
    · rw [h3]; exact hss
  · by_cases h2 : (w, u) = e
    · rcases hxs with h3 | h3 <;> rw [h3] at h2 <;> injection h2 with h4 h5
      · rw [h5]; exact hss
      · rw [h5]; exact hx
    · refine Jn.step (v := w) ?_ ih
      rcases hf with hf | hf
      · exact .inl ((List.mem_erase_of_ne h1).mpr hf)
      · exact .inr ((List.mem_erase_of_ne h2).mpr hf)
def sumW (w : Nat → Nat → Int) (E : List (Nat × Nat)) : Int := (E.map fun e => w e.1 e.2).sum
def nearUp (w : Nat → Nat → Int) (J : Nat → Bool) (i : Nat) : Nat → Option Nat
  | 0 => none
  | k + 1 => match nearUp w J i k with
    | none => if J k = true then some k else none
    | some m => if J k = true ∧ w i k < w i m then some k else some m
def pickUp (w : Nat → Nat → Int) (J : Nat → Bool) (n : Nat) : Nat → Option (Nat × Nat)
  | 0 => none
  | i + 1 => match pickUp w J n i with
    | none => if J i = true then none else (nearUp w J i n).map fun m => (i, m)
    | some p => if J i = true then some p else match nearUp w J i n with
      | none => some p
      | some m => if w i m < w p.1 p.2 then some (i, m) else some p

def updP (w : Nat → Nat → Int) (J : Nat → Bool) (i : Nat) (p : Option (Nat × Nat)) (m : Option Nat) : Option (Nat × Nat) :=
  if J i = true then p else match m with
    | none => p
    | some m => match p with
      | none => some (i, m)
      | some q => if w i m < w q.1 q.2 then some (i, m) else some q
def jd (J : List Bool) (m : Nat) : Bool := rdOf false J (m : Int)
def primSt (w : Nat → Nat → Int) (n : Nat) : Nat → List Int × Int × List Bool
  | 0 => (List.replicate n (-1), 0, (List.replicate n false).set 0 true)
  | t + 1 => match pickUp w (jd (primSt w n t).2.2) n n with
    | none => primSt w n t
    | some q => ((primSt w n t).1.set q.1 (q.2 : Int), (primSt w n t).2.1 + w q.1 q.2, (primSt w n t).2.2.set q.1 true)
def sumTo (f : Nat → Int) : Nat → Int
  | 0 => 0
  | n + 1 => sumTo f n + f n
structure PrimOk (w : Nat → Nat → Int) (n : Nat) (E : List (Nat × Nat)) (t : Nat) (s : List Int × Int × List Bool) : Prop where
  l1 : s.1.length = n
  l2 : s.2.2.length = n
  cnt : s.2.2.count true = t + 1
  j0 : jd s.2.2 0 = true
  o0 : rd s.1 0 = -1
  up : ∀ i, i < n → i ≠ 0 → jd s.2.2 i = true → 0 ≤ rd s.1 i ∧ rd s.1 i < n ∧ rd s.1 i ≠ i
  all : ∀ i, i < n → -1 ≤ rd s.1 i ∧ rd s.1 i < n
  sum : s.2.1 = sumTo (fun i => if jd s.2.2 i = true ∧ i ≠ 0 then w i (rd s.1 i).toNat else 0) n
  pot : ∃ E', (∀ e ∈ E', e ∈ E) ∧ sumW w E' + s.2.1 ≤ sumW w E ∧ ∀ u, u < n → Jn E' (jd s.2.2) u

def isqUp (n : Int) : Nat → Int
  | 0 => 0
  | k + 1 => if ((k : Int) + 1) * ((k : Int) + 1) ≤ n then (k : Int) + 1 else isqUp n k
def isq (n : Int) : Int := isqUp n n.toNat
def goodB (a b c d : Int) : Bool := bothGood a b c d && (decide (0 ≤ a) && !decide (c * b < a * d))

def withinB (x y a b c d : Int) : Bool × Bool := if goodFrac x y = true ∧ goodB a b c d = true then (!decide (x * b < a * y) && !decide (c * y < x * d), true) else (false, false)


def allTo (P : Nat → Bool) (n : Nat) : Bool := (List.range n).all P
def KK : Int := 219060189739591200
def kd (c : Int) : Int := KK / c
def gK (c : Int) : Int := kd c - kd (c + 1)
def Stab (n : Nat) (f c : Nat → Int) : Prop := ∀ i k, i < n → k < n → i ≠ k → 1 < c i → f k * gK (c k) ≤ f i * gK (c i - 1)
def costN (n : Nat) (f c : Nat → Int) : Int := sumTo (fun i => f i * kd (c i)) n
def tK (x : Int × Int) : Int := x.1 * KK / x.2
def isT (x : Int × Int) (t : Int) : Prop := 1 ≤ x.2 ∧ x.1 * KK = x.2 * t
def ratioL (flow counts : List Int) : List (Int × Int) := (List.range flow.length).map fun (j : Nat) => (lowNum (rd flow j) (rd counts j), lowDen (rd flow j) (rd counts j))
def costF (flow counts : List Int) : Int × Int × Bool := if countsOk flow counts = true then sumF (ratioL flow counts) (0, 1) else (0, 0, false)

def profB (picks flow : List Int) : Bool := ((((decide (picks.length = flow.length) && decide (picks.length ≤ 12)) && allIn picks 0 10000) && allIn flow 0 10000000) && allTo (fun i => !((rd picks i == 0) != (rd flow i == 0))) picks.length)
theorem sortRank_ev (values l : List Int) (hw : ∀ x ∈ values, -1000000 ≤ x ∧ x ≤ 10000000) (hn : l.length < 20) (hm : ∀ y ∈ l, 0 ≤ y ∧ y < (values.length : Int)) :
    Ev (fun k => sl3_SortStableFunc.f k l values) (isl (ltDown values) l) := by
  have bw : ∀ j : Int, 0 ≤ j → j < values.length → -1000000 ≤ rd values j ∧ rd values j ≤ 10000000 := fun j h0 h1 => by
    obtain ⟨n, rfl⟩ := exists_nat_of_nonneg h0
    rw [rd_nat _ _ (by omega)]; exact hw _ (List.getElem_mem _)
  have hg : Inserts (fun a b => impl_rank_1.f a b values) l.length (fun k x i => sl5_insertionSortCmpFunc.l0 k x 0 (l.length : Int) i values) (fun k x i j => sl5_insertionSortCmpFunc.l1 k x 0 (l.length : Int) i j values) :=
    ⟨fun _ _ _ => rfl, fun _ _ _ _ => rfl⟩
  have hwk : Weak (ltDown values) (fun x => 0 ≤ x ∧ x < (values.length : Int)) := by
    constructor
    · intro a b c _ _ _ h1 h2; simp only [ltDown, decide_eq_false_iff_not] at h1 h2 ⊢; omega
    · intro a b _ _ h1; simp only [ltDown, decide_eq_true_eq, decide_eq_false_iff_not] at h1 ⊢; omega
  have hs := inserts_ev hg hwk (fun a b ha hb => by
    have q1 := bw a ha.1 ha.2
    have q2 := bw b hb.1 hb.2
    unfold impl_rank_1.f
    rw [if_pos hb.1, if_pos hb.2, if_pos ha.1, if_pos ha.2, w64 (by omega) (by omega)]
    exact ⟨_, rfl, decide_eq_decide.mpr (by omega)⟩) l rfl (by omega) hm
  unfold sl3_SortStableFunc.f sl7_stableCmpFunc.f
  refine Ev.bind (r := isl (ltDown values) l) ?_ (Ev.now _)
  refine Ev.succ ?_
  simp only [sl7_stableCmpFunc.l0]
  refine Ev.neg (by omega) (Ev.bind (by unfold sl5_insertionSortCmpFunc.f; rw [w64 (by omega) (by omega)]; exact hs) ?_)
  refine Ev.succ ?_
  simp only [sl7_stableCmpFunc.l1]
  exact Ev.neg (by omega) (Ev.now _)
theorem impl_rank_ev (values : List Int) (hw : ∀ x ∈ values, -1000000 ≤ x ∧ x ≤ 10000000) (hn : values.length ≤ 12) : Ev (fun k => impl_rank.f k values) (isl (ltDown values) (idx values.length)) := by
  unfold impl_rank.f
  refine ev_up values.length (fun k i => impl_rank.l0 k (idx i) (values.length : Int) (i : Int) values) _ (fun _ => True) trivial ?_ ?_
  · intro _
    refine Ev.succ ?_
    simp only [impl_rank.l0]
    exact Ev.neg (by omega) (Ev.bind (sortRank_ev values _ hw (by rw [idx_length]; omega) (fun y hy => (mem_idx _ _).mp hy)) (Ev.now _))
  · intro i hi _ hnx
    refine Ev.succ ?_
    simp only [impl_rank.l0]
    refine Ev.pos (by omega) (Ev.pos (by rw [idx_length]; omega) ?_)
    rw [w64 (by omega) (by omega), ← idx_succ]; exact hnx trivial

def clsAt (ahead all : Int) : Int := if 2 * ahead < all then 1 else if 10 * ahead < 9 * all then 2 else 3
def cls (picks : List Int) (all : Int) : List Int → Int → List Int → List Int
  | [], _, out => out
  | i :: R, ahead, out => cls picks all R (ahead + rd picks i) (out.set i.toNat (clsAt ahead all))
def classF (picks flow : List Int) : List Int × Bool := if profB picks flow = true then (cls picks picks.sum (isl (ltDown picks) (idx picks.length)) 0 (List.replicate picks.length 0), true) else ([], false)
def ownS (picks : List Int) (n : Nat) : Int := (((isl (ltDown picks) (idx picks.length)).take n).map (rd picks)).sum
def shareP (picks flow : List Int) (first : Int) : Int × Int × Bool := if profB picks flow = true ∧ 0 ≤ first ∧ first ≤ picks.length then (if picks.sum = 0 then (0, 1, true) else (lowNum (ownS picks first.toNat) picks.sum, lowDen (ownS picks first.toNat) picks.sum, true)) else (0, 0, false)
def rankF (l : List Int) : List Int × Bool := if l.length ≤ 12 ∧ allIn l (-1000000) 10000000 = true then (isl (ltDown l) (idx l.length), true) else ([], false)
def ltDownS (v : List Int) (a b : Int) : Bool := decide (rd v b < rd v a ∨ rd v a = rd v b ∧ a < b)
end Go.Proofs.Ytneojimdhnhkeaa.Pure
