/- With more places there is no less to gain, in whatever order offers stand, and without one no more, for drawn offers: no condition but the statement's own. -/
import Derived.Test.YtpagpbamdpllnaaCFnTables0
import Derived.Test.YtpagpbamdpllnaaCFnTables1
set_option linter.unusedVariables false
set_option linter.unusedSimpArgs false
namespace Go.Proofs.Ytpagpbamdpllnaa.Print
open Go.RowKit Go.Proofs.YtpagpbamdpllnaaW.PrintWords Go.Proofs.YtpagpbamdpllnaaW.PrintLast Go.Proofs.YtpagpbamdpllnaaW.PrintMore
attribute [local go_sem] max2_int min2_int max_two min_two max_three min_three max_four min_four

theorem impl_DropOffer.more_ {P:Program} {md:Region.Mode} {ops:Array Oper} {Q:Exit→Act→World→Prop} {S S':World→Prop} (hS:∀ w,S' w→S w):∀ (fuel:Nat) (l:Array Bool) (a:Act) (w:World),S' w→wpAnyLast P md ops Q S' [] fuel l a w→wpAnyLast P md ops Q S [] fuel l a w
  |0,_,_,_,_,h=>h
  |fuel+1,_,_,_,hw,h=>⟨h.1,fun i hi=>wpOp_mono (fun a' w' h'=>⟨fun _ _=>hS w' (h'.1 (by simp) hw),impl_DropOffer.more_ hS fuel _ a' w' (h'.1 (by simp) hw) h'.2⟩) (h.2 i hi)⟩
def impl_DropOffer.j0:Nat→List (S53)→Int→Int→Bool→Option (Int×Bool)
  |0,_,_,_,_=>none
  |k+1,x0,x1,x2,x20=>if x20=true then (some (0,false)) else ((impl_Offer_146.f x0).bind fun t103=>((impl_Offer_145.f t103 x1 (wrap64 (x1+1))).bind fun t106=>((impl_tables.f k x0 x2).bind fun t109=>(if 0≤(x0.length:Int) then (if (x0.length:Int)<(t109.length:Int) then (if 0≤x2 then (if x2<((rd_L2 t109 (x0.length:Int)).length:Int) then ((impl_tables.f k t106 x2).bind fun t114=>(if 0≤(t106.length:Int) then (if (t106.length:Int)<(t114.length:Int) then (if x2<((rd_L2 t114 (t106.length:Int)).length:Int) then (some (wrap64 ((rd (rd_L2 t109 (x0.length:Int)) x2) - (rd (rd_L2 t114 (t106.length:Int)) x2)),true)) else (none)) else (none)) else (none))) else (none)) else (none)) else (none)) else (none)))))
def impl_DropOffer.f (k:Nat) (l0:List (S53)) (a1:Int) (a2:Int):Option (Int×Bool):=(impl_isOffered.f k l0 a2).bind fun t101=>(if t101=true then ((impl_within.f a1 0 (wrap64 ((l0.length:Int) - 1))).bind fun t102=>(impl_DropOffer.j0 k l0 a1 a2 (!t102))) else (impl_DropOffer.j0 k l0 a1 a2 true))
def impl_DropOffer.T4:Bool×List (List Nat×List Nat):=(true,[([],[]),([],[]),([0,1],[0,1]),([],[]),([3],[3]),([2,4],[2,4]),([5],[5]),([],[]),([6,7],[6,7]),([8],[8]),([],[]),([],[]),([10,11,2],[10,11]),([],[]),([13],[13]),([12,14],[12,14]),([15],[15]),([],[]),([16,17],[16,17]),([18],[18]),([9,19],[9,19]),([20,12,0,1,2,3,4,5,6,7,8,9,10,11,12,13,14,15,16,17,18,19,20],[20]),([21,0,1,2,3,4,5,6,7,8,9,10,11,12,13,14,15,16,17,18,19,20,21],[])])
def impl_DropOffer.B4:List Nat:=[0,0,3,0,8,31,63,0,255,511,0,0,3079,0,8192,31751,64519,0,261127,523271,1048575,2097151,4194303]
theorem impl_DropOffer.tab4:rtab .any (opsOf Try.f42 4)=impl_DropOffer.T4:=by kernel_rfl
theorem impl_DropOffer.bits4:waitsOk impl_DropOffer.T4.2 impl_DropOffer.B4=true:=by kernel_rfl
set_option maxHeartbeats 8000000 in
set_option maxRecDepth 100000 in
theorem impl_DropOffer.calls (k:Nat) (A0:Option Addr) (c0:Nat) (l0:List (S53)) (a1:Int) (a2:Int) (r1:Int) (r2:Bool) (w:World) (hr0:Kd.C k53 w A0 l0.length l0) (hc0:l0.length≤c0) (h:impl_DropOffer.f k l0 a1 a2=some (r1,r2)) :
    Calls Try.prog 42 #[.slice A0 l0.length c0,.int .i64 a1,.int .i64 a2] w fun e w'=>e= .returned (.tuple #[.int .i64 r1,.bool r2])∧Below w.heap.size w w':=by
  have HR0:=aM hr0;have HC0:=aM hc0;clear hr0 hc0;have HB:=aM (Below.refl w.heap.size w);have H:((impl_isOffered.f k l0 a2).bind fun t101=>(if t101=true then ((impl_within.f a1 0 (wrap64 ((l0.length:Int) - 1))).bind fun t102=>(impl_DropOffer.j0 k l0 a1 a2 (!t102))) else (impl_DropOffer.j0 k l0 a1 a2 true)))=some (r1,r2):=h;clear h;have HC4:=aM H;clear H;go_enter Try.func42,Try.ntmps42
  go_upto_region 1 with (fail)
  go_cut [20] (fun v20 wc=>∃ (kq:Nat) (x20_3:Bool),v20= .bool x20_3∧Aside0 (impl_DropOffer.j0 kq l0 a1 a2 x20_3=some (r1,r2))∧Aside0 (kq≤k)∧Aside0 (Below w.heap.size w wc))
  case first=>
   have H:=HC4.out;clear HC4;replace H:=Option.bind_eq_some_iff.mp H;obtain ⟨t101,A50,H⟩:=H;replace H:(if t101=true then ((impl_within.f a1 0 (wrap64 ((l0.length:Int) - 1))).bind fun t102=>(impl_DropOffer.j0 k l0 a1 a2 (!t102))) else (impl_DropOffer.j0 k l0 a1 a2 true))=some (r1,r2):=H;have A5:=aM A50;clear A50;by_cases c6:t101=true
   ·subst c6;have H1:((impl_within.f a1 0 (wrap64 ((l0.length:Int) - 1))).bind fun t102=>(impl_DropOffer.j0 k l0 a1 a2 (!t102)))=some (r1,r2):=by rw [if_pos rfl] at H;exact H
    clear H;have H:=H1;clear H1;replace H:=Option.bind_eq_some_iff.mp H;obtain ⟨t102,A70,H⟩:=H;replace H:(impl_DropOffer.j0 k l0 a1 a2 (!t102))=some (r1,r2):=H;have A7:=aM A70;clear A70;have H':=aM H;clear H;go_wp2_with (first|((with_reducible refine Qn (f:=140) rfl ?_);refine goesL_ (some 11) rfl rfl Try.func140 (by kernel_rfl) rfl #[.slice A0 l0.length c0,.int .i64 a2] rfl (by (try simp only [aD,aE,aF]);first|done|rfl|(simp only [aG,aH];rfl)) ?_;(with_reducible refine (impl_isOffered.calls k _ _ l0 a2 true _ ?side1 ?side2 A5.out).mono ?_);(case side1=>repeat (first|exact (Kd.C_below HR0.out HB.out)|(with_reducible refine Kd.Qj ?_ _)|(with_reducible refine Kd.Qk ?_ _)|(with_reducible refine Kd.C_drew ?_)));(case side2=>exact HC0.out);rintro e w8 ⟨rfl,hb⟩;refine ⟨_,rfl,?_⟩;have n0_:=aM (Qi (by repeat (first|(with_reducible first|exact HB.out|apply Qc|apply Qa|apply Qb)|exact HB.out)) hb);clear HB;have HB:=n0_;clear n0_;(try clear hb);(try clear hb2);(try clear hk);(try clear hi))|(go_at_call 113;(with_reducible refine (impl_within.calls a1 0 (wrap64 ((l0.length:Int) - 1)) t102 _ A7.out).mono ?_);rintro e w' ⟨rfl,⟨nd,rfl⟩⟩))
    go_meet
    case rel=>exact ⟨_,(!t102),(by first|rfl|(simp;done)|(simp [*];done)),H',⟨by first|omega|exact Nat.le_refl _⟩,⟨by repeat (first|(with_reducible first|exact HB.out|apply Qc|apply Qa|apply Qb)|exact HB.out)⟩⟩
   ·replace c6:=Bool.eq_false_iff.mpr c6;subst c6;have H1:(impl_DropOffer.j0 k l0 a1 a2 true)=some (r1,r2):=by rw [if_neg (show ¬ (false=true) by decide)] at H;exact H
    clear H;have H:=H1;clear H1;have H':=aM H;clear H;go_wp2_with (first|((with_reducible refine Qn (f:=140) rfl ?_);refine goesL_ (some 11) rfl rfl Try.func140 (by kernel_rfl) rfl #[.slice A0 l0.length c0,.int .i64 a2] rfl (by (try simp only [aD,aE,aF]);first|done|rfl|(simp only [aG,aH];rfl)) ?_;(with_reducible refine (impl_isOffered.calls k _ _ l0 a2 false _ ?side1 ?side2 A5.out).mono ?_);(case side1=>repeat (first|exact (Kd.C_below HR0.out HB.out)|(with_reducible refine Kd.Qj ?_ _)|(with_reducible refine Kd.Qk ?_ _)|(with_reducible refine Kd.C_drew ?_)));(case side2=>exact HC0.out);rintro e w9 ⟨rfl,hb⟩;refine ⟨_,rfl,?_⟩;have n0_:=aM (Qi (by repeat (first|(with_reducible first|exact HB.out|apply Qc|apply Qa|apply Qb)|exact HB.out)) hb);clear HB;have HB:=n0_;clear n0_;(try clear hb);(try clear hb2);(try clear hk);(try clear hi)))
    go_meet
    case rel=>exact ⟨_,(true),(by first|rfl|(simp;done)|(simp [*];done)),H',⟨by first|omega|exact Nat.le_refl _⟩,⟨by repeat (first|(with_reducible first|exact HB.out|apply Qc|apply Qa|apply Qb)|exact HB.out)⟩⟩
  case rest=>
   clear HC4;(try clear c1);(try clear p2);(try clear c4);(try clear c6);(try clear p6);obtain ⟨kq,x20_3,rfl,HA,HJ3,HB⟩:=hcut
   cases kq with
   |zero=>exact absurd HA.out (by simp [impl_DropOffer.j0])
   |succ kj3=>
    have H:=HA.out;clear HA;simp only [impl_DropOffer.j0] at H;by_cases c10:x20_3=true
    ·subst c10;have H1:(some (0,false))=some (r1,r2):=by rw [if_pos rfl] at H;exact H
     clear H;have H:=H1;clear H1;simp only [Option.some.injEq,Prod.mk.injEq] at H;obtain ⟨rfl,rfl⟩:=H;go_wp2
     go_ret2
     exact ⟨by first|rfl|(simp [errW_none,errW_some] <;> rfl)|(simp [*,errW_none,errW_some] <;> rfl),by repeat (first|(with_reducible first|exact HB.out|apply Qc|apply Qa|apply Qb)|exact HB.out)⟩
    ·replace c10:=Bool.eq_false_iff.mpr c10;subst c10;have H1:((impl_Offer_146.f l0).bind fun t103=>((impl_Offer_145.f t103 a1 (wrap64 (a1+1))).bind fun t106=>((impl_tables.f kj3 l0 a2).bind fun t109=>(if 0≤(l0.length:Int) then (if (l0.length:Int)<(t109.length:Int) then (if 0≤a2 then (if a2<((rd_L2 t109 (l0.length:Int)).length:Int) then ((impl_tables.f kj3 t106 a2).bind fun t114=>(if 0≤(t106.length:Int) then (if (t106.length:Int)<(t114.length:Int) then (if a2<((rd_L2 t114 (t106.length:Int)).length:Int) then (some (wrap64 ((rd (rd_L2 t109 (l0.length:Int)) a2) - (rd (rd_L2 t114 (t106.length:Int)) a2)),true)) else (none)) else (none)) else (none))) else (none)) else (none)) else (none)) else (none)))))=some (r1,r2):=by rw [if_neg (show ¬ (false=true) by decide)] at H;exact H
     clear H;have H:=H1;clear H1;replace H:=Option.bind_eq_some_iff.mp H;obtain ⟨t103,A110,H⟩:=H;replace H:((impl_Offer_145.f t103 a1 (wrap64 (a1+1))).bind fun t106=>((impl_tables.f kj3 l0 a2).bind fun t109=>(if 0≤(l0.length:Int) then (if (l0.length:Int)<(t109.length:Int) then (if 0≤a2 then (if a2<((rd_L2 t109 (l0.length:Int)).length:Int) then ((impl_tables.f kj3 t106 a2).bind fun t114=>(if 0≤(t106.length:Int) then (if (t106.length:Int)<(t114.length:Int) then (if a2<((rd_L2 t114 (t106.length:Int)).length:Int) then (some (wrap64 ((rd (rd_L2 t109 (l0.length:Int)) a2) - (rd (rd_L2 t114 (t106.length:Int)) a2)),true)) else (none)) else (none)) else (none))) else (none)) else (none)) else (none)) else (none))))=some (r1,r2):=H;have A11:=aM A110;clear A110;replace H:=Option.bind_eq_some_iff.mp H;obtain ⟨t106,A120,H⟩:=H;replace H:((impl_tables.f kj3 l0 a2).bind fun t109=>(if 0≤(l0.length:Int) then (if (l0.length:Int)<(t109.length:Int) then (if 0≤a2 then (if a2<((rd_L2 t109 (l0.length:Int)).length:Int) then ((impl_tables.f kj3 t106 a2).bind fun t114=>(if 0≤(t106.length:Int) then (if (t106.length:Int)<(t114.length:Int) then (if a2<((rd_L2 t114 (t106.length:Int)).length:Int) then (some (wrap64 ((rd (rd_L2 t109 (l0.length:Int)) a2) - (rd (rd_L2 t114 (t106.length:Int)) a2)),true)) else (none)) else (none)) else (none))) else (none)) else (none)) else (none)) else (none)))=some (r1,r2):=H;have A12:=aM A120;clear A120;replace H:=Option.bind_eq_some_iff.mp H;obtain ⟨t109,A130,H⟩:=H;replace H:(if 0≤(l0.length:Int) then (if (l0.length:Int)<(t109.length:Int) then (if 0≤a2 then (if a2<((rd_L2 t109 (l0.length:Int)).length:Int) then ((impl_tables.f kj3 t106 a2).bind fun t114=>(if 0≤(t106.length:Int) then (if (t106.length:Int)<(t114.length:Int) then (if a2<((rd_L2 t114 (t106.length:Int)).length:Int) then (some (wrap64 ((rd (rd_L2 t109 (l0.length:Int)) a2) - (rd (rd_L2 t114 (t106.length:Int)) a2)),true)) else (none)) else (none)) else (none))) else (none)) else (none)) else (none)) else (none))=some (r1,r2):=H;have A13:=aM A130;clear A130;by_cases c14:0≤(l0.length:Int)
     ·rw [if_pos c14] at H;have c14b0:decide (0≤(l0.length:Int))=true:=decide_eq_true c14;have c14b1:decide (0≤l0.length)=true:=decide_eq_true (by omega);clear c14;by_cases c15:(l0.length:Int)<(t109.length:Int)
      ·rw [if_pos c15] at H;have c15b0:decide ((l0.length:Int)<(t109.length:Int))=true:=decide_eq_true c15;have c15b1:decide (l0.length<t109.length)=true:=decide_eq_true (Int.ofNat_lt.mp c15);clear c15;by_cases c16:0≤a2
       ·rw [if_pos c16] at H;have c16b0:decide (0≤a2)=true:=decide_eq_true c16;clear c16;by_cases c17:a2<((rd_L2 t109 (l0.length:Int)).length:Int)
        ·rw [if_pos c17] at H;have c17b0:decide (a2<((rd_L2 t109 (l0.length:Int)).length:Int))=true:=decide_eq_true c17;clear c17;replace H:=Option.bind_eq_some_iff.mp H;obtain ⟨t114,A180,H⟩:=H;replace H:(if 0≤(t106.length:Int) then (if (t106.length:Int)<(t114.length:Int) then (if a2<((rd_L2 t114 (t106.length:Int)).length:Int) then (some (wrap64 ((rd (rd_L2 t109 (l0.length:Int)) a2) - (rd (rd_L2 t114 (t106.length:Int)) a2)),true)) else (none)) else (none)) else (none))=some (r1,r2):=H;have A18:=aM A180;clear A180;by_cases c19:0≤(t106.length:Int)
         ·rw [if_pos c19] at H;have c19b0:decide (0≤(t106.length:Int))=true:=decide_eq_true c19;have c19b1:decide (0≤t106.length)=true:=decide_eq_true (by omega);clear c19;by_cases c20:(t106.length:Int)<(t114.length:Int)
          ·rw [if_pos c20] at H;have c20b0:decide ((t106.length:Int)<(t114.length:Int))=true:=decide_eq_true c20;have c20b1:decide (t106.length<t114.length)=true:=decide_eq_true (Int.ofNat_lt.mp c20);clear c20;by_cases c21:a2<((rd_L2 t114 (t106.length:Int)).length:Int)
           ·rw [if_pos c21] at H;have c21b0:decide (a2<((rd_L2 t114 (t106.length:Int)).length:Int))=true:=decide_eq_true c21;clear c21;simp only [Option.some.injEq,Prod.mk.injEq] at H;obtain ⟨rfl,rfl⟩:=H
            try go_wp2_with (first|((with_reducible refine Qn (f:=146) rfl ?_);refine goesL_ (some 22) rfl rfl Try.func146 (by kernel_rfl) rfl #[.slice A0 l0.length c0] rfl (by (try simp only [aD,aE,aF]);first|done|rfl|(simp only [aG,aH];rfl)) ?_;(with_reducible refine (impl_Offer_146.calls (fun k_=>k_<w.heap.size) _ _ l0 t103 _ ?side1 A11.out).mono ?_);(case side1=>exact Kd.V_mk HC0.out (Kd.F_below (Kd.C_F k53_heap HR0.out) (by repeat (first|(with_reducible first|exact HB.out|apply Qc|apply Qa|apply Qb)|exact HB.out))));rintro e w22 ⟨v104,rfl,ho0,hb⟩;refine ⟨_,rfl,?_⟩;have n0_:=aM (Kd.N_lower (Kd.N_mono (ok':=fun k_=>True) ho0 (fun k_ hk_=>trivial)) (Qh (by repeat (first|(with_reducible first|exact HB.out|apply Qc|apply Qa|apply Qb)|exact HB.out))));have n1_:=aM (Qi (by repeat (first|(with_reducible first|exact HB.out|apply Qc|apply Qa|apply Qb)|exact HB.out)) hb);clear HB;have HO105:=n0_;have HB:=n1_;clear n0_ n1_;(try clear hb);(try clear hb2);(try clear hk);(try clear hi);(try clear ho0);obtain ⟨Ao23,co23,eo23⟩:=Kd.N_slice HO105.out;subst eo23)|((with_reducible refine Qn (f:=145) rfl ?_);refine goesL_ (some 26) rfl rfl Try.func145 (by kernel_rfl) rfl #[.slice Ao23 t103.length co23,.int .i64 a1,.int .i64 (wrap64 (a1+1))] rfl (by (try simp only [aD,aE,aF]);first|done|rfl|(simp only [aG,aH];rfl)) ?_;(with_reducible refine (impl_Offer_145.calls (fun k_=>True) w.heap.size _ t103 a1 (wrap64 (a1+1)) t106 _ (by (with_reducible repeat (first|apply Kd.Ql|apply Kd.Qm|apply Kd.N_drew));exact Kd.N_mono HO105.out (fun _ _=>trivial)) A12.out).mono ?_);rintro e w24 ⟨v107,rfl,ho0,hb⟩;refine ⟨_,rfl,?_⟩;have n1_:=aM ho0;have n2_:=aM (hb _ _ (Nat.le_refl _) (by repeat (first|(with_reducible first|exact HB.out|apply Qc|apply Qa|apply Qb)|exact HB.out)));clear HO105;clear HB;have HO105:=aM True.intro;have HO108:=n1_;have HB:=n2_;clear n1_ n2_;(try clear hb);(try clear ho0)))
            have n0_:=aM True.intro;have n1_:=aM (Kd.N_drew HO108.out);have n2_:=aM (Qb HB.out);clear HO105;clear HO108;clear HB;have HO105:=n0_;have HO108:=n1_;have HB:=n2_;clear n0_ n1_ n2_;obtain ⟨Ao26,co26,eo26⟩:=Kd.N_slice HO108.out
            (first|subst eo26|(injection eo26 with f1_ f2_ f3_;have f4_:=f1_.symm;have f5_:=f3_.symm;clear f1_ f2_ f3_;subst f4_;subst f5_))
            refine start_ (n:=23) (S:=fun w'=>True) (ds:=[]) #[false,false,false,false,false,false,false,false,false,false,false,false,false,false,false,false,false,false,false,false,false,false,false] (by kernel_rfl) rfl rfl trivial (fun hHeld=>?_);refine with_tabW impl_DropOffer.tab4 impl_DropOffer.bits4 (fun HT_ HW_=>?_)
            generalize w24.drew=w25 at HO108 HB hHeld ⊢
            refine pure_ (i:=0) (N:=some 27) (v:=?_) (a':=?_) #[true,false,false,false,false,false,false,false,false,false,false,false,false,false,false,false,false,false,false,false,false,false,false] rfl rfl (any_of HT_.out (by kernel_rfl)) (fun _ _ _ h=>h) (Or.inl ⟨by rfl,?_⟩) ?_ ?_
            rotate_left
            ·intro w'
             go_simp
             with_reducible rfl
            rotate_left
            ·simp only [Act.put,aA,aB,aC,i64_w,i32_w]
             rfl
            refine pure_ (i:=1) (N:=some 28) (v:=?_) (a':=?_) #[true,true,false,false,false,false,false,false,false,false,false,false,false,false,false,false,false,false,false,false,false,false,false] rfl rfl (any_of HT_.out (by kernel_rfl)) (fun _ _ _ h=>h) (Or.inl ⟨by rfl,?_⟩) ?_ ?_
            rotate_left
            ·intro w'
             go_simp
             with_reducible rfl
            rotate_left
            ·simp only [Act.put,aA,aB,aC,i64_w,i32_w]
             rfl
            refine pure_ (i:=3) (N:=some 30) (v:=?_) (a':=?_) #[true,true,false,true,false,false,false,false,false,false,false,false,false,false,false,false,false,false,false,false,false,false,false] rfl rfl (any_of HT_.out (by kernel_rfl)) (fun _ _ _ h=>h) (Or.inl ⟨by rfl,?_⟩) ?_ ?_
            rotate_left
            ·intro w'
             go_simp
             with_reducible rfl
            rotate_left
            ·simp only [Act.put,aA,aB,aC,i64_w,i32_w]
             rfl
            refine pure_ (i:=4) (N:=some 31) (v:=?_) (a':=?_) #[true,true,false,true,true,false,false,false,false,false,false,false,false,false,false,false,false,false,false,false,false,false,false] rfl rfl (any_of HT_.out (by kernel_rfl)) (fun _ _ _ h=>h) (Or.inl ⟨by rfl,?_⟩) ?_ ?_
            rotate_left
            ·intro w'
             go_simp
             with_reducible rfl
            rotate_left
            ·simp only [Act.put,aA,aB,aC,i64_w,i32_w]
             rfl
            refine pure_ (i:=7) (N:=some 34) (v:=?_) (a':=?_) #[true,true,false,true,true,false,false,true,false,false,false,false,false,false,false,false,false,false,false,false,false,false,false] rfl rfl (any_of HT_.out (by kernel_rfl)) (fun _ _ _ h=>h) (Or.inl ⟨by rfl,?_⟩) ?_ ?_
            rotate_left
            ·intro w'
             go_simp
             with_reducible rfl
            rotate_left
            ·simp only [Act.put,aA,aB,aC,i64_w,i32_w]
             rfl
            refine pure_ (i:=10) (N:=some 37) (v:=?_) (a':=?_) #[true,true,false,true,true,false,false,true,false,false,true,false,false,false,false,false,false,false,false,false,false,false,false] rfl rfl (any_of HT_.out (by kernel_rfl)) (fun _ _ _ h=>h) (Or.inl ⟨by rfl,?_⟩) ?_ ?_
            rotate_left
            ·intro w'
             go_simp
             with_reducible rfl
            rotate_left
            ·simp only [Act.put,aA,aB,aC,i64_w,i32_w]
             rfl
            refine pure_ (i:=11) (N:=some 38) (v:=?_) (a':=?_) #[true,true,false,true,true,false,false,true,false,false,true,true,false,false,false,false,false,false,false,false,false,false,false] rfl rfl (any_of HT_.out (by kernel_rfl)) (fun _ _ _ h=>h) (Or.inl ⟨by rfl,?_⟩) ?_ ?_
            rotate_left
            ·intro w'
             go_simp
             with_reducible rfl
            rotate_left
            ·simp only [Act.put,aA,aB,aC,i64_w,i32_w]
             rfl
            refine pure_ (i:=13) (N:=some 40) (v:=?_) (a':=?_) #[true,true,false,true,true,false,false,true,false,false,true,true,false,true,false,false,false,false,false,false,false,false,false] rfl rfl (any_of HT_.out (by kernel_rfl)) (fun _ _ _ h=>h) (Or.inl ⟨by rfl,?_⟩) ?_ ?_
            rotate_left
            ·intro w'
             go_simp
             with_reducible rfl
            rotate_left
            ·simp only [Act.put,aA,aB,aC,i64_w,i32_w]
             rfl
            refine pure_ (i:=14) (N:=some 41) (v:=?_) (a':=?_) #[true,true,false,true,true,false,false,true,false,false,true,true,false,true,true,false,false,false,false,false,false,false,false] rfl rfl (any_of HT_.out (by kernel_rfl)) (fun _ _ _ h=>h) (Or.inl ⟨by rfl,?_⟩) ?_ ?_
            rotate_left
            ·intro w'
             go_simp
             with_reducible rfl
            rotate_left
            ·simp only [Act.put,aA,aB,aC,i64_w,i32_w]
             rfl
            refine pure_ (i:=17) (N:=some 44) (v:=?_) (a':=?_) #[true,true,false,true,true,false,false,true,false,false,true,true,false,true,true,false,false,true,false,false,false,false,false] rfl rfl (any_of HT_.out (by kernel_rfl)) (fun _ _ _ h=>h) (Or.inl ⟨by rfl,?_⟩) ?_ ?_
            rotate_left
            ·intro w'
             go_simp
             with_reducible rfl
            rotate_left
            ·simp only [Act.put,aA,aB,aC,i64_w,i32_w]
             rfl
            refine one_ (i:=2) (N:=some 29) #[true,true,true,true,true,false,false,true,false,false,true,true,false,true,true,false,false,true,false,false,false,false,false] rfl rfl (one_of HT_.out (by kernel_rfl)) (by decide) (fun K hK=>?_)
            first|(refine goes_ Try.func141 (by kernel_rfl) rfl #[.slice A0 l0.length c0,.int .i64 a2] (by rfl) rfl rfl (by (try simp only [aD,aE,aF]);first|done|rfl|(simp only [aG,aH];rfl)) ?_)|(refine call_ 141 #[.slice A0 l0.length c0,.int .i64 a2] (by rfl) rfl (by unfold execOp;simp [resolve,Deferred.ofValue,invoke,Act.eval,enters_ Try.func141 (by kernel_rfl) rfl]) ?_)
            with_reducible refine (impl_tables.calls kj3 _ _ l0 a2 t109 _ ?side1 ?side2 A13.out).mono ?_
            (case side1=>repeat (first|exact (Kd.C_below HR0.out HB.out)|(with_reducible refine Kd.Qj ?_ _)|(with_reducible refine Kd.Qk ?_ _)|(with_reducible refine Kd.C_drew ?_)))
            (case side2=>exact HC0.out)
            rintro e w27 ⟨v110,rfl,ho0,hb⟩
            refine ⟨_,rfl,?_⟩;have n0_:=aM True.intro;have n1_:=aM (Kd.N_elder' (by (with_reducible repeat (first|apply Kd.Ql|apply Kd.Qm|apply Kd.N_drew));exact HO108.out) (Kd.N_base ho0) hb);have n2_:=aM (Kd.N_lower (Kd.N_mono (ok':=fun k_=>True∧some k_≠(.slice Ao26 t106.length co26:Value).ownBlock) ho0 (fun k_ hk_=>⟨trivial,(Kd.fresh' (Kd.N_lt (by (with_reducible repeat (first|apply Kd.Ql|apply Kd.Qm|apply Kd.N_drew));exact HO108.out)) k_ hk_)⟩)) (Qh (by repeat (first|(with_reducible first|exact HB.out|apply Qc|apply Qa|apply Qb)|exact HB.out))));have n3_:=aM (Qi (by repeat (first|(with_reducible first|exact HB.out|apply Qc|apply Qa|apply Qb)|exact HB.out)) hb);clear HO105;clear HO108;clear HB;have HO105:=n0_;have HO108:=n1_;have HO111:=n2_;have HB:=n3_;clear n0_ n1_ n2_ n3_;(try clear hb);(try clear hb2);(try clear hk);(try clear hi);(try clear ho0);obtain ⟨Ao28,co28,eo28⟩:=Kd.N_slice HO111.out
            (first|subst eo28|(injection eo28 with f1_ f2_ f3_;have f4_:=f1_.symm;have f5_:=f3_.symm;clear f1_ f2_ f3_;subst f4_;subst f5_))
            have p112:0≤((l0.length:Int):Int):=of_decide_eq_true (by first|(with_reducible assumption)|assumption);have q112:(l0.length:Int)<(t109.length:Int):=of_decide_eq_true (by first|(with_reducible assumption)|assumption);obtain ⟨ad112,A112_0,c112_0,e112,hx112_0,hl112_0,hi112_0⟩:=at_L2 (Kd.Qs HO111.out).2.2 (l0.length:Int) p112 q112
            cases e112
            obtain ⟨ce112,hce112,hMe112,hcc112⟩:=Kd.N_get HO111.out [] (l0.length:Int) p112 (by first|exact q112|exact of_decide_eq_true (by first|(with_reducible assumption)|assumption)|(have e_:=(Kd.Qs HO111.out).1;omega));obtain ⟨ua112_0,uc112_0,rfl,ul112_0,ge112_0⟩:=Kd.FK_slice_open hMe112;have hv112_0:=hcc112 0 _ rfl;rw [Nat.add_zero,show ((Kd.slice 3 (Kd.int .i64))).sz=1 from rfl,Nat.mul_one] at hv112_0;replace hv112_0:=Option.some.inj (hv112_0.symm.trans hx112_0)
            injection hv112_0 with hva_ hvn_ hvc_
            rw [hva_] at ge112_0;rw [hvc_] at ul112_0;have HL112_0:=aM (show Kd.V (Kd.int .i64) 3 _ w.heap.size _ _ (rd_L2 t109 (l0.length:Int)) from Kd.V_mk ul112_0 ge112_0);clear hva_ hvn_ hvc_ ge112_0 ul112_0;clear hcc112 hce112;have HR112_0:=aM hi112_0;have HC112_0:=aM hl112_0;clear hi112_0 hl112_0;(try simp only [Go.IntWalk.toNatUp] at hx112_0);replace p112:=eq_true p112;replace q112:=eq_true q112;have p113:0≤(a2:Int):=of_decide_eq_true (by first|(with_reducible assumption)|assumption);have q113:a2<((rd_L2 t109 (l0.length:Int)).length:Int):=of_decide_eq_true (by first|(with_reducible assumption)|assumption);obtain ⟨ad113,e113,hx113_0⟩:=Kd.at_int (by repeat (first|(with_reducible exact HR112_0.out)|(with_reducible refine Kd.Qj ?_ _)|(with_reducible refine Kd.Qk ?_ _)|(with_reducible refine Kd.C_drew ?_)|exact HR112_0.out)) a2 p113 q113
            cases e113
            replace p113:=eq_true p113;replace q113:=eq_true q113;refine hK.out _ _ trivial (fun hHeld=>?_);clear hK K;refine impl_DropOffer.more_ (S:=fun w'=>True) (S':=fun w'=>w'.cell? (ad112.add l0.length)=some (.slice (some ad113) (rd_L2 t109 (l0.length:Int)).length c112_0)∧w'.cell? (ad113.add (a2).toNat)=some (.int .i64 (rd (rd_L2 t109 (l0.length:Int)) a2))∧True) (fun _ h_=>h_.2.2) _ _ _ _ ⟨hx112_0,hx113_0,hHeld⟩ ?_;replace hHeld:=And.intro hx112_0 (And.intro hx113_0 (hHeld));refine norm_ (a':=?_) ?_ ?_
            rotate_left
            ·show Act.put _ (some 29) _=_
             simp only [Act.put,aA,aB,aC,i64_w,i32_w]
             rfl
            refine pure_ (i:=5) (N:=some 32) (v:=?_) (a':=?_) #[true,true,true,true,true,true,false,true,false,false,true,true,false,true,true,false,false,true,false,false,false,false,false] rfl rfl (any_of HT_.out (by kernel_rfl)) (fun _ _ _ h=>h) (Or.inl ⟨by rfl,?_⟩) ?_ ?_
            rotate_left
            ·intro w'
             go_simp
             with_reducible rfl
            rotate_left
            ·simp only [Act.put,aA,aB,aC,i64_w,i32_w]
             rfl
            refine take_ (i:=6) (N:=some 33) (v:=?_) (a':=?_) #[true,true,true,true,true,true,true,true,false,false,true,true,false,true,true,false,false,true,false,false,false,false,false] rfl rfl (take_ofW HT_.out HW_.out (by kernel_rfl)) (fun _ _ _ h=>h) (Or.inl ⟨by rfl,?_⟩) hHeld ?_ ?_
            rotate_left
            ·rintro w' ⟨s0,s1,s2⟩
             go_simp
             with_reducible rfl
            rotate_left
            ·simp only [Act.put,aA,aB,aC,i64_w,i32_w]
             rfl
            refine pure_ (i:=8) (N:=some 35) (v:=?_) (a':=?_) #[true,true,true,true,true,true,true,true,true,false,true,true,false,true,true,false,false,true,false,false,false,false,false] rfl rfl (any_of HT_.out (by kernel_rfl)) (fun _ _ _ h=>h) (Or.inl ⟨by rfl,?_⟩) ?_ ?_
            rotate_left
            ·intro w'
             go_simp
             with_reducible rfl
            rotate_left
            ·simp only [Act.put,aA,aB,aC,i64_w,i32_w]
             rfl
            refine take_ (i:=9) (N:=some 36) (v:=?_) (a':=?_) #[true,true,true,true,true,true,true,true,true,true,true,true,false,true,true,false,false,true,false,false,false,false,false] rfl rfl (take_ofW HT_.out HW_.out (by kernel_rfl)) (fun _ _ _ h=>h) (Or.inl ⟨by rfl,?_⟩) hHeld ?_ ?_
            rotate_left
            ·rintro w' ⟨s0,s1,s2⟩
             go_simp
             with_reducible rfl
            rotate_left
            ·simp only [Act.put,aA,aB,aC,i64_w,i32_w]
             rfl
            refine one_ (i:=12) (N:=some 39) #[true,true,true,true,true,true,true,true,true,true,true,true,true,true,true,false,false,true,false,false,false,false,false] rfl rfl (one_of HT_.out (by kernel_rfl)) (by decide) (fun K hK=>?_)
            first|(refine goes_ Try.func141 (by kernel_rfl) rfl #[.slice Ao26 t106.length co26,.int .i64 a2] (by rfl) rfl rfl (by (try simp only [aD,aE,aF]);first|done|rfl|(simp only [aG,aH];rfl)) ?_)|(refine call_ 141 #[.slice Ao26 t106.length co26,.int .i64 a2] (by rfl) rfl (by unfold execOp;simp [resolve,Deferred.ofValue,invoke,Act.eval,enters_ Try.func141 (by kernel_rfl) rfl]) ?_)
            with_reducible refine (impl_tables.calls kj3 _ _ t106 a2 t114 _ ?side1 ?side2 A18.out).mono ?_
            (case side1=>repeat (first|exact (Kd.Qs HO108.out).2.2|(with_reducible refine Kd.Qj ?_ _)|(with_reducible refine Kd.Qk ?_ _)|(with_reducible refine Kd.C_drew ?_)))
            (case side2=>exact (Kd.Qs HO108.out).2.1)
            rintro e w29 ⟨v115,rfl,ho0,hb⟩
            have HS0_:=(hb.cell (aI _ _ (hHeld.1))).trans (hHeld.1);have HS1_:=(hb.cell (aI _ _ (hHeld.2.1))).trans (hHeld.2.1);refine ⟨_,rfl,?_⟩;have n0_:=aM True.intro;have n1_:=aM (Kd.N_elder' (by (with_reducible repeat (first|apply Kd.Ql|apply Kd.Qm|apply Kd.N_drew));exact HO108.out) (Kd.N_base ho0) hb);have n2_:=aM (Kd.N_elder' (by (with_reducible repeat (first|apply Kd.Ql|apply Kd.Qm|apply Kd.N_drew));exact HO111.out) (Kd.N_base ho0) hb);have n3_:=aM (Kd.V_elder' (by (with_reducible repeat (first|apply Kd.V_alloc|apply Kd.V_drewN|apply Kd.V_drew));exact HL112_0.out) (Kd.N_base ho0) hb);have n4_:=aM (Kd.N_lower (Kd.N_mono (ok':=fun k_=>True∧some k_≠(.slice Ao26 t106.length co26:Value).ownBlock∧some k_≠(.slice (some ad112) t109.length co28:Value).ownBlock) ho0 (fun k_ hk_=>⟨trivial,(Kd.fresh' (Kd.N_lt (by (with_reducible repeat (first|apply Kd.Ql|apply Kd.Qm|apply Kd.N_drew));exact HO108.out)) k_ hk_),(Kd.fresh' (Kd.N_lt (by (with_reducible repeat (first|apply Kd.Ql|apply Kd.Qm|apply Kd.N_drew));exact HO111.out)) k_ hk_)⟩)) (Qh (by repeat (first|(with_reducible first|exact HB.out|apply Qc|apply Qa|apply Qb)|exact HB.out))));have n5_:=aM (Kd.C_below (by repeat (first|(with_reducible exact HR112_0.out)|(with_reducible refine Kd.Qj ?_ _)|(with_reducible refine Kd.Qk ?_ _)|(with_reducible refine Kd.C_drew ?_)|exact HR112_0.out)) hb);have n6_:=aM (Qi (by repeat (first|(with_reducible first|exact HB.out|apply Qc|apply Qa|apply Qb)|exact HB.out)) hb);clear HO105;clear HO108;clear HO111;clear HL112_0;clear HR112_0;clear HB;have HO105:=n0_;have HO108:=n1_;have HO111:=n2_;have HL112_0:=n3_;have HO116:=n4_;have HR112_0:=n5_;have HB:=n6_;clear n0_ n1_ n2_ n3_ n4_ n5_ n6_;(try clear hb);(try clear hb2);(try clear hk);(try clear hi);(try clear ho0);obtain ⟨Ao30,co30,eo30⟩:=Kd.N_slice HO116.out
            (first|subst eo30|(injection eo30 with f1_ f2_ f3_;have f4_:=f1_.symm;have f5_:=f3_.symm;clear f1_ f2_ f3_;subst f4_;subst f5_))
            have p117:0≤((t106.length:Int):Int):=of_decide_eq_true (by first|(with_reducible assumption)|assumption);have q117:(t106.length:Int)<(t114.length:Int):=of_decide_eq_true (by first|(with_reducible assumption)|assumption);obtain ⟨ad117,A117_0,c117_0,e117,hx117_0,hl117_0,hi117_0⟩:=at_L2 (Kd.Qs HO116.out).2.2 (t106.length:Int) p117 q117
            cases e117
            obtain ⟨ce117,hce117,hMe117,hcc117⟩:=Kd.N_get HO116.out [] (t106.length:Int) p117 (by first|exact q117|exact of_decide_eq_true (by first|(with_reducible assumption)|assumption)|(have e_:=(Kd.Qs HO116.out).1;omega));obtain ⟨ua117_0,uc117_0,rfl,ul117_0,ge117_0⟩:=Kd.FK_slice_open hMe117;have hv117_0:=hcc117 0 _ rfl;rw [Nat.add_zero,show ((Kd.slice 3 (Kd.int .i64))).sz=1 from rfl,Nat.mul_one] at hv117_0;replace hv117_0:=Option.some.inj (hv117_0.symm.trans hx117_0)
            injection hv117_0 with hva_ hvn_ hvc_
            rw [hva_] at ge117_0;rw [hvc_] at ul117_0;have HL117_0:=aM (show Kd.V (Kd.int .i64) 3 _ w.heap.size _ _ (rd_L2 t114 (t106.length:Int)) from Kd.V_mk ul117_0 ge117_0);clear hva_ hvn_ hvc_ ge117_0 ul117_0;clear hcc117 hce117;have HR117_0:=aM hi117_0;have HC117_0:=aM hl117_0;clear hi117_0 hl117_0;(try simp only [Go.IntWalk.toNatUp] at hx117_0);replace p117:=eq_true p117;replace q117:=eq_true q117;have p118:0≤(a2:Int):=of_decide_eq_true (by first|(with_reducible assumption)|assumption);have q118:a2<((rd_L2 t114 (t106.length:Int)).length:Int):=of_decide_eq_true (by first|(with_reducible assumption)|assumption);obtain ⟨ad118,e118,hx118_0⟩:=Kd.at_int (by repeat (first|(with_reducible exact HR117_0.out)|(with_reducible refine Kd.Qj ?_ _)|(with_reducible refine Kd.Qk ?_ _)|(with_reducible refine Kd.C_drew ?_)|exact HR117_0.out)) a2 p118 q118
            cases e118
            replace p118:=eq_true p118;replace q118:=eq_true q118;refine hK.out _ _ ⟨HS0_,HS1_,trivial⟩ (fun hHeld=>?_);clear hK K;refine impl_DropOffer.more_ (S:=fun w'=>w'.cell? (ad112.add l0.length)=some (.slice (some ad113) (rd_L2 t109 (l0.length:Int)).length c112_0)∧w'.cell? (ad113.add (a2).toNat)=some (.int .i64 (rd (rd_L2 t109 (l0.length:Int)) a2))∧True) (S':=fun w'=>w'.cell? (ad117.add t106.length)=some (.slice (some ad118) (rd_L2 t114 (t106.length:Int)).length c117_0)∧w'.cell? (ad118.add (a2).toNat)=some (.int .i64 (rd (rd_L2 t114 (t106.length:Int)) a2))∧w'.cell? (ad112.add l0.length)=some (.slice (some ad113) (rd_L2 t109 (l0.length:Int)).length c112_0)∧w'.cell? (ad113.add (a2).toNat)=some (.int .i64 (rd (rd_L2 t109 (l0.length:Int)) a2))∧True) (fun _ h_=>h_.2.2) _ _ _ _ ⟨hx117_0,hx118_0,hHeld⟩ ?_;replace hHeld:=And.intro hx117_0 (And.intro hx118_0 (hHeld));refine norm_ (a':=?_) ?_ ?_
            rotate_left
            ·show Act.put _ (some 39) _=_
             simp only [Act.put,aA,aB,aC,i64_w,i32_w]
             rfl
            refine pure_ (i:=15) (N:=some 42) (v:=?_) (a':=?_) #[true,true,true,true,true,true,true,true,true,true,true,true,true,true,true,true,false,true,false,false,false,false,false] rfl rfl (any_of HT_.out (by kernel_rfl)) (fun _ _ _ h=>h) (Or.inl ⟨by rfl,?_⟩) ?_ ?_
            rotate_left
            ·intro w'
             go_simp
             with_reducible rfl
            rotate_left
            ·simp only [Act.put,aA,aB,aC,i64_w,i32_w]
             rfl
            refine take_ (i:=16) (N:=some 43) (v:=?_) (a':=?_) #[true,true,true,true,true,true,true,true,true,true,true,true,true,true,true,true,true,true,false,false,false,false,false] rfl rfl (take_ofW HT_.out HW_.out (by kernel_rfl)) (fun _ _ _ h=>h) (Or.inl ⟨by rfl,?_⟩) hHeld ?_ ?_
            rotate_left
            ·rintro w' ⟨s0,s1,s2,s3,s4⟩
             go_simp
             with_reducible rfl
            rotate_left
            ·simp only [Act.put,aA,aB,aC,i64_w,i32_w]
             rfl
            refine pure_ (i:=18) (N:=some 45) (v:=?_) (a':=?_) #[true,true,true,true,true,true,true,true,true,true,true,true,true,true,true,true,true,true,true,false,false,false,false] rfl rfl (any_of HT_.out (by kernel_rfl)) (fun _ _ _ h=>h) (Or.inl ⟨by rfl,?_⟩) ?_ ?_
            rotate_left
            ·intro w'
             go_simp
             with_reducible rfl
            rotate_left
            ·simp only [Act.put,aA,aB,aC,i64_w,i32_w]
             rfl
            refine take_ (i:=19) (N:=some 46) (v:=?_) (a':=?_) #[true,true,true,true,true,true,true,true,true,true,true,true,true,true,true,true,true,true,true,true,false,false,false] rfl rfl (take_ofW HT_.out HW_.out (by kernel_rfl)) (fun _ _ _ h=>h) (Or.inl ⟨by rfl,?_⟩) hHeld ?_ ?_
            rotate_left
            ·rintro w' ⟨s0,s1,s2,s3,s4⟩
             go_simp
             with_reducible rfl
            rotate_left
            ·simp only [Act.put,aA,aB,aC,i64_w,i32_w]
             rfl
            refine pure_ (i:=20) (N:=some 47) (v:=?_) (a':=?_) #[true,true,true,true,true,true,true,true,true,true,true,true,true,true,true,true,true,true,true,true,true,false,false] rfl rfl (any_of HT_.out (by kernel_rfl)) (fun _ _ _ h=>h) (Or.inl ⟨by rfl,?_⟩) ?_ ?_
            rotate_left
            ·intro w'
             go_simp
             with_reducible rfl
            rotate_left
            ·simp only [Act.put,aA,aB,aC,i64_w,i32_w]
             rfl
            refine pure_ (i:=21) (N:=some 6) (v:=?_) (a':=?_) #[true,true,true,true,true,true,true,true,true,true,true,true,true,true,true,true,true,true,true,true,true,true,false] rfl rfl (any_of HT_.out (by kernel_rfl)) (fun _ _ _ h=>h) (Or.inl ⟨by rfl,?_⟩) ?_ ?_
            rotate_left
            ·intro w'
             go_simp
             with_reducible rfl
            rotate_left
            ·simp only [Act.put,aA,aB,aC,i64_w,i32_w]
             rfl
            refine pure_ (i:=22) (N:=some 7) (v:=?_) (a':=?_) #[true,true,true,true,true,true,true,true,true,true,true,true,true,true,true,true,true,true,true,true,true,true,true] rfl rfl (any_of HT_.out (by kernel_rfl)) (fun _ _ _ h=>h) (Or.inl ⟨by rfl,?_⟩) ?_ ?_
            rotate_left
            ·intro w'
             go_simp
             with_reducible rfl
            rotate_left
            ·simp only [Act.put,aA,aB,aC,i64_w,i32_w]
             rfl
            refine done_ (done_of HT_.out (by kernel_rfl)) ?_
            try go_wp2
            go_ret2
            exact ⟨by first|rfl|(simp [errW_none,errW_some] <;> rfl)|(simp [*,errW_none,errW_some] <;> rfl),by repeat (first|(with_reducible first|exact HB.out|apply Qc|apply Qa|apply Qb)|exact HB.out)⟩
           ·rw [if_neg c21] at H;exact absurd H (by simp)
          ·rw [if_neg c20] at H;exact absurd H (by simp)
         ·rw [if_neg c19] at H;exact absurd H (by simp)
        ·rw [if_neg c17] at H;exact absurd H (by simp)
       ·rw [if_neg c16] at H;exact absurd H (by simp)
      ·rw [if_neg c15] at H;exact absurd H (by simp)
     ·rw [if_neg c14] at H;exact absurd H (by simp)

theorem spec_DropOffer.more_ {P:Program} {md:Region.Mode} {ops:Array Oper} {Q:Exit→Act→World→Prop} {S S':World→Prop} (hS:∀ w,S' w→S w):∀ (fuel:Nat) (l:Array Bool) (a:Act) (w:World),S' w→wpAnyLast P md ops Q S' [] fuel l a w→wpAnyLast P md ops Q S [] fuel l a w
  |0,_,_,_,_,h=>h
  |fuel+1,_,_,_,hw,h=>⟨h.1,fun i hi=>wpOp_mono (fun a' w' h'=>⟨fun _ _=>hS w' (h'.1 (by simp) hw),spec_DropOffer.more_ hS fuel _ a' w' (h'.1 (by simp) hw) h'.2⟩) (h.2 i hi)⟩
def spec_DropOffer.j0:Nat→List (S53)→Int→Int→Bool→Option (Int×Bool)
  |0,_,_,_,_=>none
  |k+1,x0,x1,x2,x26=>if x26=true then (some (0,false)) else ((some (([]:List (S53)):List (S53))).bind fun y103=>(if 0≤x1 then (if x1≤(x0.length:Int) then ((some (x0.take (x1:Int).toNat:List (S53))).bind fun y106=>(if y103.length+y106.length<5864062014805 then ((some (y103 ++ y106:List (S53))).bind fun y111=>(if 0≤(wrap64 (x1+1)) then (if (wrap64 (x1+1))≤(x0.length:Int) then ((some (x0.drop ((wrap64 (x1+1)):Int).toNat:List (S53))).bind fun y114=>(if y111.length+y114.length<5864062014805 then ((some (y111 ++ y114:List (S53))).bind fun y119=>((spec_l6Rows.f k x0 x2).bind fun t122=>(if 0≤(x0.length:Int) then (if (x0.length:Int)<(t122.length:Int) then (if 0≤x2 then (if x2<((rd_L2 t122 (x0.length:Int)).length:Int) then ((spec_l6Rows.f k y119 x2).bind fun t127=>(if 0≤(y119.length:Int) then (if (y119.length:Int)<(t127.length:Int) then (if x2<((rd_L2 t127 (y119.length:Int)).length:Int) then (some (wrap64 ((rd (rd_L2 t122 (x0.length:Int)) x2) - (rd (rd_L2 t127 (y119.length:Int)) x2)),true)) else (none)) else (none)) else (none))) else (none)) else (none)) else (none)) else (none)))) else (none))) else (none)) else (none))) else (none))) else (none)) else (none)))
def spec_DropOffer.f (k:Nat) (l0:List (S53)) (a1:Int) (a2:Int):Option (Int×Bool):=(spec_GoodOffers.f k l0).bind fun t101=>(if t101=true then ((spec_l6Places.f a2).bind fun t102=>(if t102=true then (if a1<0 then (spec_DropOffer.j0 k l0 a1 a2 true) else (spec_DropOffer.j0 k l0 a1 a2 (decide (a1 ≥ (l0.length:Int))))) else (spec_DropOffer.j0 k l0 a1 a2 true))) else (spec_DropOffer.j0 k l0 a1 a2 true))
def spec_DropOffer.T5:Bool×List (List Nat×List Nat):=(true,[([],[]),([],[]),([0,1],[0,1]),([],[]),([3],[3]),([2,4],[2,4]),([5],[5]),([],[]),([6,7],[6,7]),([8],[8]),([],[]),([],[]),([10,11,2],[10,11]),([],[]),([13],[13]),([12,14],[12,14]),([15],[15]),([],[]),([16,17],[16,17]),([18],[18]),([9,19],[9,19]),([20,12,0,1,2,3,4,5,6,7,8,9,10,11,12,13,14,15,16,17,18,19,20],[20]),([21,0,1,2,3,4,5,6,7,8,9,10,11,12,13,14,15,16,17,18,19,20,21],[])])
def spec_DropOffer.B5:List Nat:=[0,0,3,0,8,31,63,0,255,511,0,0,3079,0,8192,31751,64519,0,261127,523271,1048575,2097151,4194303]
theorem spec_DropOffer.tab5:rtab .any (opsOf Try.f43 5)=spec_DropOffer.T5:=by kernel_rfl
theorem spec_DropOffer.bits5:waitsOk spec_DropOffer.T5.2 spec_DropOffer.B5=true:=by kernel_rfl
set_option maxHeartbeats 8000000 in
set_option maxRecDepth 100000 in
theorem spec_DropOffer.calls (k:Nat) (P0_:Nat→Prop) (A0:Option Addr) (c0:Nat) (l0:List (S53)) (a1:Int) (a2:Int) (r1:Int) (r2:Bool) (w:World) (hs0:Kd.V k53 53 w w.heap.size (fun k_=>P0_ k_) (.slice A0 l0.length c0) l0) (h:spec_DropOffer.f k l0 a1 a2=some (r1,r2)) :
    Calls Try.prog 43 #[.slice A0 l0.length c0,.int .i64 a1,.int .i64 a2] w fun e w'=>e= .returned (.tuple #[.int .i64 r1,.bool r2])∧Below w.heap.size w w':=by
  have HO0:=aM (show Kd.V k53 53 w w.heap.size (fun k_=>(P0_ k_∨w.heap.size≤k_)) (.slice A0 l0.length c0) l0 from Kd.V_mono hs0 (fun k_ hk=> .inl hk));have HB:=aM (Below.refl w.heap.size w);have H:((spec_GoodOffers.f k l0).bind fun t101=>(if t101=true then ((spec_l6Places.f a2).bind fun t102=>(if t102=true then (if a1<0 then (spec_DropOffer.j0 k l0 a1 a2 true) else (spec_DropOffer.j0 k l0 a1 a2 (decide (a1 ≥ (l0.length:Int))))) else (spec_DropOffer.j0 k l0 a1 a2 true))) else (spec_DropOffer.j0 k l0 a1 a2 true)))=some (r1,r2):=h;clear h;have HC4:=aM H;clear H;go_enter Try.func43,Try.ntmps43
  go_upto_region 1 with (fail)
  go_cut [26] (fun v26 wc=>∃ (kq:Nat) (x26_3:Bool),v26= .bool x26_3∧Aside0 (spec_DropOffer.j0 kq l0 a1 a2 x26_3=some (r1,r2))∧Aside0 (kq≤k)∧Aside0 (Kd.V k53 53 wc w.heap.size (fun k_=>(P0_ k_∨w.heap.size≤k_)) (.slice A0 l0.length c0) l0)∧Aside0 (Below w.heap.size w wc))
  case first=>
   have H:=HC4.out;clear HC4;replace H:=Option.bind_eq_some_iff.mp H;obtain ⟨t101,A50,H⟩:=H;replace H:(if t101=true then ((spec_l6Places.f a2).bind fun t102=>(if t102=true then (if a1<0 then (spec_DropOffer.j0 k l0 a1 a2 true) else (spec_DropOffer.j0 k l0 a1 a2 (decide (a1 ≥ (l0.length:Int))))) else (spec_DropOffer.j0 k l0 a1 a2 true))) else (spec_DropOffer.j0 k l0 a1 a2 true))=some (r1,r2):=H;have A5:=aM A50;clear A50;by_cases c6:t101=true
   ·subst c6;have H1:((spec_l6Places.f a2).bind fun t102=>(if t102=true then (if a1<0 then (spec_DropOffer.j0 k l0 a1 a2 true) else (spec_DropOffer.j0 k l0 a1 a2 (decide (a1 ≥ (l0.length:Int))))) else (spec_DropOffer.j0 k l0 a1 a2 true)))=some (r1,r2):=by rw [if_pos rfl] at H;exact H
    clear H;have H:=H1;clear H1;replace H:=Option.bind_eq_some_iff.mp H;obtain ⟨t102,A70,H⟩:=H;replace H:(if t102=true then (if a1<0 then (spec_DropOffer.j0 k l0 a1 a2 true) else (spec_DropOffer.j0 k l0 a1 a2 (decide (a1 ≥ (l0.length:Int))))) else (spec_DropOffer.j0 k l0 a1 a2 true))=some (r1,r2):=H;have A7:=aM A70;clear A70;by_cases c8:t102=true
    ·subst c8;have H1:(if a1<0 then (spec_DropOffer.j0 k l0 a1 a2 true) else (spec_DropOffer.j0 k l0 a1 a2 (decide (a1 ≥ (l0.length:Int)))))=some (r1,r2):=by rw [if_pos rfl] at H;exact H
     clear H;have H:=H1;clear H1;by_cases c9:a1<0
     ·rw [if_pos c9] at H;have c9b0:decide (a1<0)=true:=decide_eq_true c9;clear c9
      (first|rw [c9b0]|(simp only [i64_w,i32_w];rw [c9b0])|skip)
      have H':=aM H;clear H;go_wp2_with (first|((with_reducible refine Qn (f:=49) rfl ?_);refine goesL_ (some 10) rfl rfl Try.func49 (by kernel_rfl) rfl #[.slice A0 l0.length c0] rfl (by (try simp only [aD,aE,aF]);first|done|rfl|(simp only [aG,aH];rfl)) ?_;(with_reducible refine (spec_GoodOffers.calls k _ _ l0 true _ ?side1 ?side2 A5.out).mono ?_);(case side1=>repeat (first|exact (Kd.Qo HO0.out).2.2|(with_reducible refine Kd.Qj ?_ _)|(with_reducible refine Kd.Qk ?_ _)|(with_reducible refine Kd.C_drew ?_)));(case side2=>exact (Kd.Qo HO0.out).2.1);rintro e w10 ⟨rfl,hb⟩;refine ⟨_,rfl,?_⟩;have n0_:=aM (Kd.V_below (by (with_reducible repeat (first|apply Kd.V_alloc|apply Kd.V_drewN|apply Kd.V_drew));exact HO0.out) hb);have n1_:=aM (Qi (by repeat (first|(with_reducible first|exact HB.out|apply Qc|apply Qa|apply Qb)|exact HB.out)) hb);clear HO0;clear HB;have HO0:=n0_;have HB:=n1_;clear n0_ n1_;(try clear hb);(try clear hb2);(try clear hk);(try clear hi))|(go_at_call 142;(with_reducible refine (spec_l6Places.calls a2 true _ A7.out).mono ?_);rintro e w' ⟨rfl,⟨nd,rfl⟩⟩))
      go_meet
      case rel=>exact ⟨_,(true),(by first|rfl|(simp;done)|(simp [*];done)),H',⟨by first|omega|exact Nat.le_refl _⟩,⟨by (with_reducible repeat (first|apply Kd.V_alloc|apply Kd.V_drewN|apply Kd.V_drew));exact HO0.out⟩,⟨by repeat (first|(with_reducible first|exact HB.out|apply Qc|apply Qa|apply Qb)|exact HB.out)⟩⟩
     ·rw [if_neg c9] at H;have c9b0:decide (a1<0)=false:=decide_eq_false c9;clear c9
      (first|rw [c9b0]|(simp only [i64_w,i32_w];rw [c9b0])|skip)
      have H':=aM H;clear H;go_wp2_with (first|((with_reducible refine Qn (f:=49) rfl ?_);refine goesL_ (some 10) rfl rfl Try.func49 (by kernel_rfl) rfl #[.slice A0 l0.length c0] rfl (by (try simp only [aD,aE,aF]);first|done|rfl|(simp only [aG,aH];rfl)) ?_;(with_reducible refine (spec_GoodOffers.calls k _ _ l0 true _ ?side1 ?side2 A5.out).mono ?_);(case side1=>repeat (first|exact (Kd.Qo HO0.out).2.2|(with_reducible refine Kd.Qj ?_ _)|(with_reducible refine Kd.Qk ?_ _)|(with_reducible refine Kd.C_drew ?_)));(case side2=>exact (Kd.Qo HO0.out).2.1);rintro e w11 ⟨rfl,hb⟩;refine ⟨_,rfl,?_⟩;have n0_:=aM (Kd.V_below (by (with_reducible repeat (first|apply Kd.V_alloc|apply Kd.V_drewN|apply Kd.V_drew));exact HO0.out) hb);have n1_:=aM (Qi (by repeat (first|(with_reducible first|exact HB.out|apply Qc|apply Qa|apply Qb)|exact HB.out)) hb);clear HO0;clear HB;have HO0:=n0_;have HB:=n1_;clear n0_ n1_;(try clear hb);(try clear hb2);(try clear hk);(try clear hi))|(go_at_call 142;(with_reducible refine (spec_l6Places.calls a2 true _ A7.out).mono ?_);rintro e w' ⟨rfl,⟨nd,rfl⟩⟩))
      go_meet
      case rel=>exact ⟨_,(decide (a1 ≥ (l0.length:Int))),(by first|rfl|(simp;done)|(simp [*];done)),H',⟨by first|omega|exact Nat.le_refl _⟩,⟨by (with_reducible repeat (first|apply Kd.V_alloc|apply Kd.V_drewN|apply Kd.V_drew));exact HO0.out⟩,⟨by repeat (first|(with_reducible first|exact HB.out|apply Qc|apply Qa|apply Qb)|exact HB.out)⟩⟩
    ·replace c8:=Bool.eq_false_iff.mpr c8;subst c8;have H1:(spec_DropOffer.j0 k l0 a1 a2 true)=some (r1,r2):=by rw [if_neg (show ¬ (false=true) by decide)] at H;exact H
     clear H;have H:=H1;clear H1;have H':=aM H;clear H;go_wp2_with (first|((with_reducible refine Qn (f:=49) rfl ?_);refine goesL_ (some 10) rfl rfl Try.func49 (by kernel_rfl) rfl #[.slice A0 l0.length c0] rfl (by (try simp only [aD,aE,aF]);first|done|rfl|(simp only [aG,aH];rfl)) ?_;(with_reducible refine (spec_GoodOffers.calls k _ _ l0 true _ ?side1 ?side2 A5.out).mono ?_);(case side1=>repeat (first|exact (Kd.Qo HO0.out).2.2|(with_reducible refine Kd.Qj ?_ _)|(with_reducible refine Kd.Qk ?_ _)|(with_reducible refine Kd.C_drew ?_)));(case side2=>exact (Kd.Qo HO0.out).2.1);rintro e w12 ⟨rfl,hb⟩;refine ⟨_,rfl,?_⟩;have n0_:=aM (Kd.V_below (by (with_reducible repeat (first|apply Kd.V_alloc|apply Kd.V_drewN|apply Kd.V_drew));exact HO0.out) hb);have n1_:=aM (Qi (by repeat (first|(with_reducible first|exact HB.out|apply Qc|apply Qa|apply Qb)|exact HB.out)) hb);clear HO0;clear HB;have HO0:=n0_;have HB:=n1_;clear n0_ n1_;(try clear hb);(try clear hb2);(try clear hk);(try clear hi))|(go_at_call 142;(with_reducible refine (spec_l6Places.calls a2 false _ A7.out).mono ?_);rintro e w' ⟨rfl,⟨nd,rfl⟩⟩))
     go_meet
     case rel=>exact ⟨_,(true),(by first|rfl|(simp;done)|(simp [*];done)),H',⟨by first|omega|exact Nat.le_refl _⟩,⟨by (with_reducible repeat (first|apply Kd.V_alloc|apply Kd.V_drewN|apply Kd.V_drew));exact HO0.out⟩,⟨by repeat (first|(with_reducible first|exact HB.out|apply Qc|apply Qa|apply Qb)|exact HB.out)⟩⟩
   ·replace c6:=Bool.eq_false_iff.mpr c6;subst c6;have H1:(spec_DropOffer.j0 k l0 a1 a2 true)=some (r1,r2):=by rw [if_neg (show ¬ (false=true) by decide)] at H;exact H
    clear H;have H:=H1;clear H1;have H':=aM H;clear H;go_wp2_with (first|((with_reducible refine Qn (f:=49) rfl ?_);refine goesL_ (some 10) rfl rfl Try.func49 (by kernel_rfl) rfl #[.slice A0 l0.length c0] rfl (by (try simp only [aD,aE,aF]);first|done|rfl|(simp only [aG,aH];rfl)) ?_;(with_reducible refine (spec_GoodOffers.calls k _ _ l0 false _ ?side1 ?side2 A5.out).mono ?_);(case side1=>repeat (first|exact (Kd.Qo HO0.out).2.2|(with_reducible refine Kd.Qj ?_ _)|(with_reducible refine Kd.Qk ?_ _)|(with_reducible refine Kd.C_drew ?_)));(case side2=>exact (Kd.Qo HO0.out).2.1);rintro e w13 ⟨rfl,hb⟩;refine ⟨_,rfl,?_⟩;have n0_:=aM (Kd.V_below (by (with_reducible repeat (first|apply Kd.V_alloc|apply Kd.V_drewN|apply Kd.V_drew));exact HO0.out) hb);have n1_:=aM (Qi (by repeat (first|(with_reducible first|exact HB.out|apply Qc|apply Qa|apply Qb)|exact HB.out)) hb);clear HO0;clear HB;have HO0:=n0_;have HB:=n1_;clear n0_ n1_;(try clear hb);(try clear hb2);(try clear hk);(try clear hi)))
    go_meet
    case rel=>exact ⟨_,(true),(by first|rfl|(simp;done)|(simp [*];done)),H',⟨by first|omega|exact Nat.le_refl _⟩,⟨by (with_reducible repeat (first|apply Kd.V_alloc|apply Kd.V_drewN|apply Kd.V_drew));exact HO0.out⟩,⟨by repeat (first|(with_reducible first|exact HB.out|apply Qc|apply Qa|apply Qb)|exact HB.out)⟩⟩
  case rest=>
   clear HC4;(try clear p2);(try clear c4);(try clear c6);(try clear c8);(try clear c9);(try clear c9b0);obtain ⟨kq,x26_3,rfl,HA,HJ3,HO_0,HB⟩:=hcut
   cases kq with
   |zero=>exact absurd HA.out (by simp [spec_DropOffer.j0])
   |succ kj3=>
    have H:=HA.out;clear HA;simp only [spec_DropOffer.j0] at H;by_cases c14:x26_3=true
    ·subst c14;have H1:(some (0,false))=some (r1,r2):=by rw [if_pos rfl] at H;exact H
     clear H;have H:=H1;clear H1;simp only [Option.some.injEq,Prod.mk.injEq] at H;obtain ⟨rfl,rfl⟩:=H;go_wp2
     go_ret2
     exact ⟨by first|rfl|(simp [errW_none,errW_some] <;> rfl)|(simp [*,errW_none,errW_some] <;> rfl),by repeat (first|(with_reducible first|exact HB.out|apply Qc|apply Qa|apply Qb)|exact HB.out)⟩
    ·replace c14:=Bool.eq_false_iff.mpr c14;subst c14;have H1:((some (([]:List (S53)):List (S53))).bind fun y103=>(if 0≤a1 then (if a1≤(l0.length:Int) then ((some (l0.take (a1:Int).toNat:List (S53))).bind fun y106=>(if y103.length+y106.length<5864062014805 then ((some (y103 ++ y106:List (S53))).bind fun y111=>(if 0≤(wrap64 (a1+1)) then (if (wrap64 (a1+1))≤(l0.length:Int) then ((some (l0.drop ((wrap64 (a1+1)):Int).toNat:List (S53))).bind fun y114=>(if y111.length+y114.length<5864062014805 then ((some (y111 ++ y114:List (S53))).bind fun y119=>((spec_l6Rows.f kj3 l0 a2).bind fun t122=>(if 0≤(l0.length:Int) then (if (l0.length:Int)<(t122.length:Int) then (if 0≤a2 then (if a2<((rd_L2 t122 (l0.length:Int)).length:Int) then ((spec_l6Rows.f kj3 y119 a2).bind fun t127=>(if 0≤(y119.length:Int) then (if (y119.length:Int)<(t127.length:Int) then (if a2<((rd_L2 t127 (y119.length:Int)).length:Int) then (some (wrap64 ((rd (rd_L2 t122 (l0.length:Int)) a2) - (rd (rd_L2 t127 (y119.length:Int)) a2)),true)) else (none)) else (none)) else (none))) else (none)) else (none)) else (none)) else (none)))) else (none))) else (none)) else (none))) else (none))) else (none)) else (none)))=some (r1,r2):=by rw [if_neg (show ¬ (false=true) by decide)] at H;exact H
     clear H;have H:=H1;clear H1;obtain ⟨y103,hy103⟩:∃ y_:List (S53),y_=(([]:List (S53))):=⟨_,rfl⟩;replace H:(if 0≤a1 then (if a1≤(l0.length:Int) then ((some (l0.take (a1:Int).toNat:List (S53))).bind fun y106=>(if y103.length+y106.length<5864062014805 then ((some (y103 ++ y106:List (S53))).bind fun y111=>(if 0≤(wrap64 (a1+1)) then (if (wrap64 (a1+1))≤(l0.length:Int) then ((some (l0.drop ((wrap64 (a1+1)):Int).toNat:List (S53))).bind fun y114=>(if y111.length+y114.length<5864062014805 then ((some (y111 ++ y114:List (S53))).bind fun y119=>((spec_l6Rows.f kj3 l0 a2).bind fun t122=>(if 0≤(l0.length:Int) then (if (l0.length:Int)<(t122.length:Int) then (if 0≤a2 then (if a2<((rd_L2 t122 (l0.length:Int)).length:Int) then ((spec_l6Rows.f kj3 y119 a2).bind fun t127=>(if 0≤(y119.length:Int) then (if (y119.length:Int)<(t127.length:Int) then (if a2<((rd_L2 t127 (y119.length:Int)).length:Int) then (some (wrap64 ((rd (rd_L2 t122 (l0.length:Int)) a2) - (rd (rd_L2 t127 (y119.length:Int)) a2)),true)) else (none)) else (none)) else (none))) else (none)) else (none)) else (none)) else (none)))) else (none))) else (none)) else (none))) else (none))) else (none)) else (none))=some (r1,r2):=by first|(rw [hy103];with_reducible exact H)|(have H2_:=(Option.bind_some _ _).symm.trans H;rw [hy103];with_reducible exact H2_)|(have H2_:=(Option.bind_some _ _).symm.trans H;with_reducible exact H2_)|with_reducible exact H|(rw [hy103];exact H)|exact H
     have Ny103:=aM hy103;clear hy103;by_cases c15:0≤a1
     ·rw [if_pos c15] at H;have c15b0:=eq_true c15;have c15b1:decide (0≤a1)=true:=decide_eq_true c15;clear c15;by_cases c16:a1≤(l0.length:Int)
      ·rw [if_pos c16] at H;have c16b0:=eq_true c16;have c16b1:decide (a1≤(l0.length:Int))=true:=decide_eq_true c16;clear c16;obtain ⟨y106,hy106⟩:∃ y_:List (S53),y_=(l0.take (a1:Int).toNat):=⟨_,rfl⟩;replace H:(if y103.length+y106.length<5864062014805 then ((some (y103 ++ y106:List (S53))).bind fun y111=>(if 0≤(wrap64 (a1+1)) then (if (wrap64 (a1+1))≤(l0.length:Int) then ((some (l0.drop ((wrap64 (a1+1)):Int).toNat:List (S53))).bind fun y114=>(if y111.length+y114.length<5864062014805 then ((some (y111 ++ y114:List (S53))).bind fun y119=>((spec_l6Rows.f kj3 l0 a2).bind fun t122=>(if 0≤(l0.length:Int) then (if (l0.length:Int)<(t122.length:Int) then (if 0≤a2 then (if a2<((rd_L2 t122 (l0.length:Int)).length:Int) then ((spec_l6Rows.f kj3 y119 a2).bind fun t127=>(if 0≤(y119.length:Int) then (if (y119.length:Int)<(t127.length:Int) then (if a2<((rd_L2 t127 (y119.length:Int)).length:Int) then (some (wrap64 ((rd (rd_L2 t122 (l0.length:Int)) a2) - (rd (rd_L2 t127 (y119.length:Int)) a2)),true)) else (none)) else (none)) else (none))) else (none)) else (none)) else (none)) else (none)))) else (none))) else (none)) else (none))) else (none))=some (r1,r2):=by first|(rw [hy106];with_reducible exact H)|(have H2_:=(Option.bind_some _ _).symm.trans H;rw [hy106];with_reducible exact H2_)|(have H2_:=(Option.bind_some _ _).symm.trans H;with_reducible exact H2_)|with_reducible exact H|(rw [hy106];exact H)|exact H
       have Ny106:=aM hy106;clear hy106;by_cases c17:y103.length+y106.length<5864062014805
       ·rw [if_pos c17] at H;have LMc17:=aM c17;clear c17;obtain ⟨y111,hy111⟩:∃ y_:List (S53),y_=(y103 ++ y106):=⟨_,rfl⟩;replace H:(if 0≤(wrap64 (a1+1)) then (if (wrap64 (a1+1))≤(l0.length:Int) then ((some (l0.drop ((wrap64 (a1+1)):Int).toNat:List (S53))).bind fun y114=>(if y111.length+y114.length<5864062014805 then ((some (y111 ++ y114:List (S53))).bind fun y119=>((spec_l6Rows.f kj3 l0 a2).bind fun t122=>(if 0≤(l0.length:Int) then (if (l0.length:Int)<(t122.length:Int) then (if 0≤a2 then (if a2<((rd_L2 t122 (l0.length:Int)).length:Int) then ((spec_l6Rows.f kj3 y119 a2).bind fun t127=>(if 0≤(y119.length:Int) then (if (y119.length:Int)<(t127.length:Int) then (if a2<((rd_L2 t127 (y119.length:Int)).length:Int) then (some (wrap64 ((rd (rd_L2 t122 (l0.length:Int)) a2) - (rd (rd_L2 t127 (y119.length:Int)) a2)),true)) else (none)) else (none)) else (none))) else (none)) else (none)) else (none)) else (none)))) else (none))) else (none)) else (none))=some (r1,r2):=by first|(rw [hy111];with_reducible exact H)|(have H2_:=(Option.bind_some _ _).symm.trans H;rw [hy111];with_reducible exact H2_)|(have H2_:=(Option.bind_some _ _).symm.trans H;with_reducible exact H2_)|with_reducible exact H|(rw [hy111];exact H)|exact H
        have Ny111:=aM hy111;clear hy111;obtain ⟨ji18,hji18⟩:∃ j_:Int,(wrap64 (a1+1))=j_:=⟨_,rfl⟩;replace H:(if 0≤(ji18) then (if (ji18)≤(l0.length:Int) then ((some (l0.drop ((ji18):Int).toNat:List (S53))).bind fun y114=>(if y111.length+y114.length<5864062014805 then ((some (y111 ++ y114:List (S53))).bind fun y119=>((spec_l6Rows.f kj3 l0 a2).bind fun t122=>(if 0≤(l0.length:Int) then (if (l0.length:Int)<(t122.length:Int) then (if 0≤a2 then (if a2<((rd_L2 t122 (l0.length:Int)).length:Int) then ((spec_l6Rows.f kj3 y119 a2).bind fun t127=>(if 0≤(y119.length:Int) then (if (y119.length:Int)<(t127.length:Int) then (if a2<((rd_L2 t127 (y119.length:Int)).length:Int) then (some (wrap64 ((rd (rd_L2 t122 (l0.length:Int)) a2) - (rd (rd_L2 t127 (y119.length:Int)) a2)),true)) else (none)) else (none)) else (none))) else (none)) else (none)) else (none)) else (none)))) else (none))) else (none)) else (none))=some (r1,r2):=by first|(rw [hji18] at H;exact H)|(simp only [hji18] at H ⊢;exact H)
        have hji18w:(IntKind.i64.wrap (a1+1))=ji18:=(i64_w _).trans hji18;by_cases c19:0≤(ji18)
        ·rw [if_pos c19] at H;have c19b0:=eq_true c19;have c19b1:decide (0≤(ji18))=true:=decide_eq_true c19;clear c19;by_cases c20:(ji18)≤(l0.length:Int)
         ·rw [if_pos c20] at H;have c20b0:=eq_true c20;have c20b1:decide ((ji18)≤(l0.length:Int))=true:=decide_eq_true c20;clear c20;obtain ⟨y114,hy114⟩:∃ y_:List (S53),y_=(l0.drop ((ji18):Int).toNat):=⟨_,rfl⟩;replace H:(if y111.length+y114.length<5864062014805 then ((some (y111 ++ y114:List (S53))).bind fun y119=>((spec_l6Rows.f kj3 l0 a2).bind fun t122=>(if 0≤(l0.length:Int) then (if (l0.length:Int)<(t122.length:Int) then (if 0≤a2 then (if a2<((rd_L2 t122 (l0.length:Int)).length:Int) then ((spec_l6Rows.f kj3 y119 a2).bind fun t127=>(if 0≤(y119.length:Int) then (if (y119.length:Int)<(t127.length:Int) then (if a2<((rd_L2 t127 (y119.length:Int)).length:Int) then (some (wrap64 ((rd (rd_L2 t122 (l0.length:Int)) a2) - (rd (rd_L2 t127 (y119.length:Int)) a2)),true)) else (none)) else (none)) else (none))) else (none)) else (none)) else (none)) else (none)))) else (none))=some (r1,r2):=by first|(rw [hy114];with_reducible exact H)|(have H2_:=(Option.bind_some _ _).symm.trans H;rw [hy114];with_reducible exact H2_)|(have H2_:=(Option.bind_some _ _).symm.trans H;with_reducible exact H2_)|with_reducible exact H|(rw [hy114];exact H)|exact H
          have Ny114:=aM hy114;clear hy114;by_cases c21:y111.length+y114.length<5864062014805
          ·rw [if_pos c21] at H;have LMc21:=aM c21;clear c21;obtain ⟨y119,hy119⟩:∃ y_:List (S53),y_=(y111 ++ y114):=⟨_,rfl⟩;replace H:((spec_l6Rows.f kj3 l0 a2).bind fun t122=>(if 0≤(l0.length:Int) then (if (l0.length:Int)<(t122.length:Int) then (if 0≤a2 then (if a2<((rd_L2 t122 (l0.length:Int)).length:Int) then ((spec_l6Rows.f kj3 y119 a2).bind fun t127=>(if 0≤(y119.length:Int) then (if (y119.length:Int)<(t127.length:Int) then (if a2<((rd_L2 t127 (y119.length:Int)).length:Int) then (some (wrap64 ((rd (rd_L2 t122 (l0.length:Int)) a2) - (rd (rd_L2 t127 (y119.length:Int)) a2)),true)) else (none)) else (none)) else (none))) else (none)) else (none)) else (none)) else (none)))=some (r1,r2):=by first|(rw [hy119];with_reducible exact H)|(have H2_:=(Option.bind_some _ _).symm.trans H;rw [hy119];with_reducible exact H2_)|(have H2_:=(Option.bind_some _ _).symm.trans H;with_reducible exact H2_)|with_reducible exact H|(rw [hy119];exact H)|exact H
           have Ny119:=aM hy119;clear hy119;replace H:=Option.bind_eq_some_iff.mp H;obtain ⟨t122,A220,H⟩:=H;replace H:(if 0≤(l0.length:Int) then (if (l0.length:Int)<(t122.length:Int) then (if 0≤a2 then (if a2<((rd_L2 t122 (l0.length:Int)).length:Int) then ((spec_l6Rows.f kj3 y119 a2).bind fun t127=>(if 0≤(y119.length:Int) then (if (y119.length:Int)<(t127.length:Int) then (if a2<((rd_L2 t127 (y119.length:Int)).length:Int) then (some (wrap64 ((rd (rd_L2 t122 (l0.length:Int)) a2) - (rd (rd_L2 t127 (y119.length:Int)) a2)),true)) else (none)) else (none)) else (none))) else (none)) else (none)) else (none)) else (none))=some (r1,r2):=H;have A22:=aM A220;clear A220;by_cases c23:0≤(l0.length:Int)
           ·rw [if_pos c23] at H;have c23b0:decide (0≤(l0.length:Int))=true:=decide_eq_true c23;have c23b1:decide (0≤l0.length)=true:=decide_eq_true (by omega);clear c23;by_cases c24:(l0.length:Int)<(t122.length:Int)
            ·rw [if_pos c24] at H;have c24b0:decide ((l0.length:Int)<(t122.length:Int))=true:=decide_eq_true c24;have c24b1:decide (l0.length<t122.length)=true:=decide_eq_true (Int.ofNat_lt.mp c24);clear c24;by_cases c25:0≤a2
             ·rw [if_pos c25] at H;have c25b0:decide (0≤a2)=true:=decide_eq_true c25;clear c25;by_cases c26:a2<((rd_L2 t122 (l0.length:Int)).length:Int)
              ·rw [if_pos c26] at H;have c26b0:decide (a2<((rd_L2 t122 (l0.length:Int)).length:Int))=true:=decide_eq_true c26;clear c26;replace H:=Option.bind_eq_some_iff.mp H;obtain ⟨t127,A270,H⟩:=H;replace H:(if 0≤(y119.length:Int) then (if (y119.length:Int)<(t127.length:Int) then (if a2<((rd_L2 t127 (y119.length:Int)).length:Int) then (some (wrap64 ((rd (rd_L2 t122 (l0.length:Int)) a2) - (rd (rd_L2 t127 (y119.length:Int)) a2)),true)) else (none)) else (none)) else (none))=some (r1,r2):=H;have A27:=aM A270;clear A270;by_cases c28:0≤(y119.length:Int)
               ·rw [if_pos c28] at H;have c28b0:decide (0≤(y119.length:Int))=true:=decide_eq_true c28;have c28b1:decide (0≤y119.length)=true:=decide_eq_true (by omega);clear c28;by_cases c29:(y119.length:Int)<(t127.length:Int)
                ·rw [if_pos c29] at H;have c29b0:decide ((y119.length:Int)<(t127.length:Int))=true:=decide_eq_true c29;have c29b1:decide (y119.length<t127.length)=true:=decide_eq_true (Int.ofNat_lt.mp c29);clear c29;by_cases c30:a2<((rd_L2 t127 (y119.length:Int)).length:Int)
                 ·rw [if_pos c30] at H;have c30b0:decide (a2<((rd_L2 t127 (y119.length:Int)).length:Int))=true:=decide_eq_true c30;clear c30;simp only [Option.some.injEq,Prod.mk.injEq] at H;obtain ⟨rfl,rfl⟩:=H
                  try go_wp2_with (first|((with_reducible refine gate_dst (N:=27) rfl ?_);(try (refine gate_guard (by rfl) ?_;dsimp only));refine Kd.N_lit k53 _ 53 ?hg (N':=27) ?hd (xs:=([]:List (S53))) (inner:=[]) (ok:=(fun k_=>(P0_ k_∨w.heap.size≤k_))) (okp:=(fun k_=>(P0_ k_∨w.heap.size≤k_))) ?hr ?hp (fun _ hk=>hk) ((show ∀ k_,wc.heap.size≤k_→(fun k_=>(P0_ k_∨w.heap.size≤k_)) k_ from fun k_ hk=>(.inr (Nat.le_trans (Qh (by repeat (first|(with_reducible first|exact HB.out|apply Qc|apply Qa|apply Qb)|exact HB.out))) hk))) _ (Nat.le_refl _)) (Below.refl _ _) (Nat.le_refl _) (by simp) ?_;(case hd=>rfl);(case hg=>rfl);(case hr=>first|(go_simp;done)|(go_simp;rfl));(case hp=>exact (Reps.none _ _));intro v104 w31 ho32 hb hg_ hnew_;clear hg_ hnew_;(first|rw [←Ny103.out] at ho32|(simp only [Int.reduceToNat] at ho32;rw [←Ny103.out] at ho32));have n0_:=aM (Kd.V_elder' (by (with_reducible repeat (first|apply Kd.V_alloc|apply Kd.V_drewN|apply Kd.V_drew));exact HO_0.out) (Kd.N_base ho32) hb);have n1_:=aM (Kd.N_lower ho32 (Qh (by repeat (first|(with_reducible first|exact HB.out|apply Qc|apply Qa|apply Qb)|exact HB.out))));have n2_:=aM (Qi (by repeat (first|(with_reducible first|exact HB.out|apply Qc|apply Qa|apply Qb)|exact HB.out)) hb);clear HO_0;clear HB;have HO_0:=n0_;have HO105:=n1_;have HB:=n2_;clear n0_ n1_ n2_;clear hb ho32;have q33:(a1:Int)≤((l0.length:Int):Int):=of_decide_eq_true (by first|(with_reducible assumption)|assumption);obtain ⟨i033,hi033,_,hsz33,_⟩:=info_parts info53;have hroom33:l0.length≤c0:=(Kd.Qo HO_0.out).2.1;have hC33:Kd.F k53 _ _ A0 l0.length l0:=(Kd.V_at (base:=w.heap.size) HO_0.out).2.2;have hcut33:=cut_to (P:=Try.prog) 48 53 .i64 Try.underlying48 hi033 A0 l0.length c0 a1 (of_decide_eq_true (by first|(with_reducible assumption)|assumption)) q33 hroom33;have hr33:=Kd.F_take (m:=(a1:Int).toNat) hC33 (by omega);have hy33:y106.length=(a1:Int).toNat:=(by rw [Ny106.out,aH];omega);rw [←Ny106.out] at hr33;rw [←hy33] at hcut33;have HO110:=aM (show Kd.V k53 53 _ w.heap.size _ (.slice A0 y106.length c0) y106 from Kd.V_mk (by omega) hr33);have HC110:=aM (show y106.length≤c0 from by omega);clear hr33 hC33 hroom33 hi033 hsz33;have KY33:=aM hy33;clear hy33;replace q33:=eq_true q33)|((with_reducible refine gate_builtin (b:= .append) (xs:=#[.tmp 27,.tmp 30]) rfl ?_);(try (refine gate_guard (by rfl) ?_;dsimp only));at_builtin;refine Kd.N_append_rows k53 (w0:=w) w.heap.size rfl (.tmp 27) (.tmp 30) 48 53 (.agg #[(.slice none 0 0)]) 24 rfl Try.underlying48 info53 rfl (by decide) (by omega) v104 y103 y106 _ _ _ (fun k_=>(P0_ k_∨w.heap.size≤k_)) (fun k_=>((fun k_=>(P0_ k_∨w.heap.size≤k_))) k_∧some k_≠(v104:Value).ownBlock) rfl rfl ?aO ?aR (fun _ hk=>hk) ?aF ?aB ?aS ?aL ?_;(case aR=>exact (by skip;exact Kd.V_F (Kd.V_mono (ok':=(fun k_=>((fun k_=>(P0_ k_∨w.heap.size≤k_))) k_∧some k_≠(v104:Value).ownBlock)) (HO110.out) (fun k_ hk=>⟨hk.1,hk.2⟩))));(case aB=>exact (by repeat (first|(with_reducible first|exact HB.out|apply Qc|apply Qa|apply Qb)|exact HB.out)));(case aF=>exact (fun k_ hk=>(.inr (Nat.le_trans (Qh (by repeat (first|(with_reducible first|exact HB.out|apply Qc|apply Qa|apply Qb)|exact HB.out))) hk))));(case aO=>exact (by (with_reducible repeat (first|apply Kd.Ql|apply Kd.Qm|apply Kd.N_drew));exact HO105.out));(case aS=>exact (Qh (by repeat (first|(with_reducible first|exact HB.out|apply Qc|apply Qa|apply Qb)|exact HB.out))));(case aL=>have:=LMc17.out;omega);intro v112 w34 ho hb hg hat;rw [←Ny111.out] at ho;have n0_:=aM (Kd.V_afterv (ok:=(fun k_=>(P0_ k_∨w.heap.size≤k_))) (by (with_reducible repeat (first|apply Kd.V_alloc|apply Kd.V_drewN|apply Kd.V_drew));exact HO_0.out) hg hat);have n1_:=aM (Kd.V_afterv (ok:=(fun k_=>(P0_ k_∨w.heap.size≤k_))) (by (with_reducible repeat (first|apply Kd.V_alloc|apply Kd.V_drewN|apply Kd.V_drew));exact HO110.out) hg hat);have n2_:=aM (hb);have n3_:=aM (ho);clear HO_0;clear HO110;clear HB;clear HO105;have HO_0:=n0_;have HO110:=n1_;have HB:=n2_;have HO113:=n3_;clear n0_ n1_ n2_ n3_;clear ho hb hg hat;have q35:((ji18):Int)≤((l0.length:Int):Int):=of_decide_eq_true (by first|(with_reducible assumption)|assumption);obtain ⟨i035,hi035,_,hsz35,_⟩:=info_parts info53;have hroom35:l0.length≤c0:=(Kd.Qo HO_0.out).2.1;have hC35:Kd.F k53 _ _ A0 l0.length l0:=(Kd.V_at (base:=w.heap.size) HO_0.out).2.2;have q035:(0:Int)≤((ji18):Int):=of_decide_eq_true (by first|(with_reducible assumption)|assumption);have hcut35:=cut_from (P:=Try.prog) 48 53 .i64 Try.underlying48 hi035 1 hsz35 A0 l0.length c0 (ji18) q035 q35;have hr35:=Kd.F_cut (m:=((ji18):Int).toNat) (c:=c0) hC35 (by omega) hroom35;obtain ⟨A35,hA35⟩:∃ A1,A1=(if c0=((ji18):Int).toNat then A0 else (A0:Option Addr).map (·.add (((ji18):Int).toNat * 1))):=⟨_,rfl⟩;obtain ⟨c35,hc35⟩:∃ c1,c1=c0 - ((ji18):Int).toNat:=⟨_,rfl⟩;have hy35:y114.length=l0.length - ((ji18):Int).toNat:=(by rw [Ny114.out,aG] <;> omega);rw [show (l0).drop ((ji18):Int).toNat=y114 from Ny114.out.symm] at hr35;replace hr35:Kd.F k53 _ _ A35 y114.length y114:=(by rw [hA35];exact hr35);rw [←hy35,←hA35,←hc35] at hcut35;have HO118:=aM (show Kd.V k53 53 _ w.heap.size _ (.slice A35 y114.length c35) y114 from Kd.V_mk (by rw [hy35,hc35];exact Nat.sub_le_sub_right hroom35 _) hr35);have HC118:=aM (show y114.length≤c35 from by rw [hy35,hc35];exact Nat.sub_le_sub_right hroom35 _);clear hr35 hC35 hroom35 hi035 hsz35 hc35;have KY35:=aM hy35;have KA35:=aM hA35;clear hy35 hA35;replace q35:=eq_true q35)|((with_reducible refine gate_builtin (b:= .append) (xs:=#[.tmp 32,.tmp 36]) rfl ?_);(try (refine gate_guard (by rfl) ?_;dsimp only));at_builtin;refine Kd.N_append_rows k53 (w0:=w) w.heap.size rfl (.tmp 32) (.tmp 36) 48 53 (.agg #[(.slice none 0 0)]) 24 rfl Try.underlying48 info53 rfl (by decide) (by omega) v112 y111 y114 _ _ _ (fun k_=>(P0_ k_∨w.heap.size≤k_)) (fun k_=>((fun k_=>(P0_ k_∨w.heap.size≤k_))) k_∧some k_≠(v112:Value).ownBlock) rfl rfl ?aO ?aR (fun _ hk=>hk) ?aF ?aB ?aS ?aL ?_;(case aR=>exact (by skip;exact Kd.V_F (Kd.V_mono (ok':=(fun k_=>((fun k_=>(P0_ k_∨w.heap.size≤k_))) k_∧some k_≠(v112:Value).ownBlock)) (HO118.out) (fun k_ hk=>⟨hk.1,hk.2⟩))));(case aB=>exact (by repeat (first|(with_reducible first|exact HB.out|apply Qc|apply Qa|apply Qb)|exact HB.out)));(case aF=>exact (fun k_ hk=>(.inr (Nat.le_trans (Qh (by repeat (first|(with_reducible first|exact HB.out|apply Qc|apply Qa|apply Qb)|exact HB.out))) hk))));(case aO=>exact (by (with_reducible repeat (first|apply Kd.Ql|apply Kd.Qm|apply Kd.N_drew));exact HO113.out));(case aS=>exact (Qh (by repeat (first|(with_reducible first|exact HB.out|apply Qc|apply Qa|apply Qb)|exact HB.out))));(case aL=>have:=LMc21.out;omega);intro v120 w36 ho hb hg hat;rw [←Ny119.out] at ho;have n0_:=aM (Kd.V_afterv (ok:=(fun k_=>(P0_ k_∨w.heap.size≤k_))) (by (with_reducible repeat (first|apply Kd.V_alloc|apply Kd.V_drewN|apply Kd.V_drew));exact HO_0.out) hg hat);have n1_:=aM (Kd.V_afterv (ok:=(fun k_=>(P0_ k_∨w.heap.size≤k_))) (by (with_reducible repeat (first|apply Kd.V_alloc|apply Kd.V_drewN|apply Kd.V_drew));exact HO110.out) hg hat);have n2_:=aM (Kd.V_afterv (ok:=(fun k_=>(P0_ k_∨w.heap.size≤k_))) (by (with_reducible repeat (first|apply Kd.V_alloc|apply Kd.V_drewN|apply Kd.V_drew));exact HO118.out) hg hat);have n3_:=aM (hb);have n4_:=aM (ho);clear HO_0;clear HO110;clear HO118;clear HB;clear HO113;have HO_0:=n0_;have HO110:=n1_;have HO118:=n2_;have HB:=n3_;have HO121:=n4_;clear n0_ n1_ n2_ n3_ n4_;clear ho hb hg hat))
                  have n0_:=aM (Kd.V_drew HO_0.out);have n1_:=aM (Kd.V_drew HO110.out);have n2_:=aM (Kd.V_drew HO118.out);have n3_:=aM (Kd.N_drew HO121.out);have n4_:=aM (Qb HB.out);clear HO_0;clear HO110;clear HO118;clear HO121;clear HB;have HO_0:=n0_;have HO110:=n1_;have HO118:=n2_;have HO121:=n3_;have HB:=n4_;clear n0_ n1_ n2_ n3_ n4_;obtain ⟨Ao38,co38,eo38⟩:=Kd.N_slice HO121.out
                  (first|subst eo38|(injection eo38 with f1_ f2_ f3_;have f4_:=f1_.symm;have f5_:=f3_.symm;clear f1_ f2_ f3_;subst f4_;subst f5_))
                  refine start_ (n:=23) (S:=fun w'=>True) (ds:=[]) #[false,false,false,false,false,false,false,false,false,false,false,false,false,false,false,false,false,false,false,false,false,false,false] (by kernel_rfl) rfl rfl trivial (fun hHeld=>?_);refine with_tabW spec_DropOffer.tab5 spec_DropOffer.bits5 (fun HT_ HW_=>?_)
                  generalize w36.drew=w37 at HO_0 HO110 HO118 HO121 HB hHeld ⊢
                  refine pure_ (i:=0) (N:=some 38) (v:=?_) (a':=?_) #[true,false,false,false,false,false,false,false,false,false,false,false,false,false,false,false,false,false,false,false,false,false,false] rfl rfl (any_of HT_.out (by kernel_rfl)) (fun _ _ _ h=>h) (Or.inl ⟨by rfl,?_⟩) ?_ ?_
                  rotate_left
                  ·intro w'
                   go_simp
                   with_reducible rfl
                  rotate_left
                  ·simp only [Act.put,aA,aB,aC,i64_w,i32_w]
                   rfl
                  refine pure_ (i:=1) (N:=some 39) (v:=?_) (a':=?_) #[true,true,false,false,false,false,false,false,false,false,false,false,false,false,false,false,false,false,false,false,false,false,false] rfl rfl (any_of HT_.out (by kernel_rfl)) (fun _ _ _ h=>h) (Or.inl ⟨by rfl,?_⟩) ?_ ?_
                  rotate_left
                  ·intro w'
                   go_simp
                   with_reducible rfl
                  rotate_left
                  ·simp only [Act.put,aA,aB,aC,i64_w,i32_w]
                   rfl
                  refine pure_ (i:=3) (N:=some 41) (v:=?_) (a':=?_) #[true,true,false,true,false,false,false,false,false,false,false,false,false,false,false,false,false,false,false,false,false,false,false] rfl rfl (any_of HT_.out (by kernel_rfl)) (fun _ _ _ h=>h) (Or.inl ⟨by rfl,?_⟩) ?_ ?_
                  rotate_left
                  ·intro w'
                   go_simp
                   with_reducible rfl
                  rotate_left
                  ·simp only [Act.put,aA,aB,aC,i64_w,i32_w]
                   rfl
                  refine pure_ (i:=4) (N:=some 42) (v:=?_) (a':=?_) #[true,true,false,true,true,false,false,false,false,false,false,false,false,false,false,false,false,false,false,false,false,false,false] rfl rfl (any_of HT_.out (by kernel_rfl)) (fun _ _ _ h=>h) (Or.inl ⟨by rfl,?_⟩) ?_ ?_
                  rotate_left
                  ·intro w'
                   go_simp
                   with_reducible rfl
                  rotate_left
                  ·simp only [Act.put,aA,aB,aC,i64_w,i32_w]
                   rfl
                  refine pure_ (i:=7) (N:=some 45) (v:=?_) (a':=?_) #[true,true,false,true,true,false,false,true,false,false,false,false,false,false,false,false,false,false,false,false,false,false,false] rfl rfl (any_of HT_.out (by kernel_rfl)) (fun _ _ _ h=>h) (Or.inl ⟨by rfl,?_⟩) ?_ ?_
                  rotate_left
                  ·intro w'
                   go_simp
                   with_reducible rfl
                  rotate_left
                  ·simp only [Act.put,aA,aB,aC,i64_w,i32_w]
                   rfl
                  refine pure_ (i:=10) (N:=some 48) (v:=?_) (a':=?_) #[true,true,false,true,true,false,false,true,false,false,true,false,false,false,false,false,false,false,false,false,false,false,false] rfl rfl (any_of HT_.out (by kernel_rfl)) (fun _ _ _ h=>h) (Or.inl ⟨by rfl,?_⟩) ?_ ?_
                  rotate_left
                  ·intro w'
                   go_simp
                   with_reducible rfl
                  rotate_left
                  ·simp only [Act.put,aA,aB,aC,i64_w,i32_w]
                   rfl
                  refine pure_ (i:=11) (N:=some 49) (v:=?_) (a':=?_) #[true,true,false,true,true,false,false,true,false,false,true,true,false,false,false,false,false,false,false,false,false,false,false] rfl rfl (any_of HT_.out (by kernel_rfl)) (fun _ _ _ h=>h) (Or.inl ⟨by rfl,?_⟩) ?_ ?_
                  rotate_left
                  ·intro w'
                   go_simp
                   with_reducible rfl
                  rotate_left
                  ·simp only [Act.put,aA,aB,aC,i64_w,i32_w]
                   rfl
                  refine pure_ (i:=13) (N:=some 51) (v:=?_) (a':=?_) #[true,true,false,true,true,false,false,true,false,false,true,true,false,true,false,false,false,false,false,false,false,false,false] rfl rfl (any_of HT_.out (by kernel_rfl)) (fun _ _ _ h=>h) (Or.inl ⟨by rfl,?_⟩) ?_ ?_
                  rotate_left
                  ·intro w'
                   go_simp
                   with_reducible rfl
                  rotate_left
                  ·simp only [Act.put,aA,aB,aC,i64_w,i32_w]
                   rfl
                  refine pure_ (i:=14) (N:=some 52) (v:=?_) (a':=?_) #[true,true,false,true,true,false,false,true,false,false,true,true,false,true,true,false,false,false,false,false,false,false,false] rfl rfl (any_of HT_.out (by kernel_rfl)) (fun _ _ _ h=>h) (Or.inl ⟨by rfl,?_⟩) ?_ ?_
                  rotate_left
                  ·intro w'
                   go_simp
                   with_reducible rfl
                  rotate_left
                  ·simp only [Act.put,aA,aB,aC,i64_w,i32_w]
                   rfl
                  refine pure_ (i:=17) (N:=some 55) (v:=?_) (a':=?_) #[true,true,false,true,true,false,false,true,false,false,true,true,false,true,true,false,false,true,false,false,false,false,false] rfl rfl (any_of HT_.out (by kernel_rfl)) (fun _ _ _ h=>h) (Or.inl ⟨by rfl,?_⟩) ?_ ?_
                  rotate_left
                  ·intro w'
                   go_simp
                   with_reducible rfl
                  rotate_left
                  ·simp only [Act.put,aA,aB,aC,i64_w,i32_w]
                   rfl
                  refine one_ (i:=2) (N:=some 40) #[true,true,true,true,true,false,false,true,false,false,true,true,false,true,true,false,false,true,false,false,false,false,false] rfl rfl (one_of HT_.out (by kernel_rfl)) (by decide) (fun K hK=>?_)
                  first|(refine goes_ Try.func143 (by kernel_rfl) rfl #[.slice A0 l0.length c0,.int .i64 a2] (by rfl) rfl rfl (by (try simp only [aD,aE,aF]);first|done|rfl|(simp only [aG,aH];rfl)) ?_)|(refine call_ 143 #[.slice A0 l0.length c0,.int .i64 a2] (by rfl) rfl (by unfold execOp;simp [resolve,Deferred.ofValue,invoke,Act.eval,enters_ Try.func143 (by kernel_rfl) rfl]) ?_)
                  with_reducible refine (spec_l6Rows.calls kj3 _ _ l0 a2 t122 _ ?side1 ?side2 A22.out).mono ?_
                  (case side1=>repeat (first|exact (Kd.Qo HO_0.out).2.2|(with_reducible refine Kd.Qj ?_ _)|(with_reducible refine Kd.Qk ?_ _)|(with_reducible refine Kd.C_drew ?_)))
                  (case side2=>exact (Kd.Qo HO_0.out).2.1)
                  rintro e w39 ⟨v123,rfl,ho0,hb⟩
                  refine ⟨_,rfl,?_⟩;have n0_:=aM (Kd.V_elder' (by (with_reducible repeat (first|apply Kd.V_alloc|apply Kd.V_drewN|apply Kd.V_drew));exact HO_0.out) (Kd.N_base ho0) hb);have n1_:=aM (Kd.V_elder' (by (with_reducible repeat (first|apply Kd.V_alloc|apply Kd.V_drewN|apply Kd.V_drew));exact HO110.out) (Kd.N_base ho0) hb);have n2_:=aM (Kd.V_elder' (by (with_reducible repeat (first|apply Kd.V_alloc|apply Kd.V_drewN|apply Kd.V_drew));exact HO118.out) (Kd.N_base ho0) hb);have n3_:=aM (Kd.N_elder' (by (with_reducible repeat (first|apply Kd.Ql|apply Kd.Qm|apply Kd.N_drew));exact HO121.out) (Kd.N_base ho0) hb);have n4_:=aM (Kd.N_lower (Kd.N_mono (ok':=fun k_=>(P0_ k_∨w.heap.size≤k_)∧some k_≠(.slice Ao38 y119.length co38:Value).ownBlock) ho0 (fun k_ hk_=>⟨(.inr (Nat.le_trans (Qh (by repeat (first|(with_reducible first|exact HB.out|apply Qc|apply Qa|apply Qb)|exact HB.out))) hk_)),(Kd.fresh' (Kd.N_lt (by (with_reducible repeat (first|apply Kd.Ql|apply Kd.Qm|apply Kd.N_drew));exact HO121.out)) k_ hk_)⟩)) (Qh (by repeat (first|(with_reducible first|exact HB.out|apply Qc|apply Qa|apply Qb)|exact HB.out))));have n5_:=aM (Qi (by repeat (first|(with_reducible first|exact HB.out|apply Qc|apply Qa|apply Qb)|exact HB.out)) hb);clear HO_0;clear HO110;clear HO118;clear HO121;clear HB;have HO_0:=n0_;have HO110:=n1_;have HO118:=n2_;have HO121:=n3_;have HO124:=n4_;have HB:=n5_;clear n0_ n1_ n2_ n3_ n4_ n5_;(try clear hb);(try clear hb2);(try clear hk);(try clear hi);(try clear ho0);obtain ⟨Ao40,co40,eo40⟩:=Kd.N_slice HO124.out
                  (first|subst eo40|(injection eo40 with f1_ f2_ f3_;have f4_:=f1_.symm;have f5_:=f3_.symm;clear f1_ f2_ f3_;subst f4_;subst f5_))
                  have p125:0≤((l0.length:Int):Int):=of_decide_eq_true (by first|(with_reducible assumption)|assumption);have q125:(l0.length:Int)<(t122.length:Int):=of_decide_eq_true (by first|(with_reducible assumption)|assumption);obtain ⟨ad125,A125_0,c125_0,e125,hx125_0,hl125_0,hi125_0⟩:=at_L2 (Kd.Qs HO124.out).2.2 (l0.length:Int) p125 q125
                  cases e125
                  obtain ⟨ce125,hce125,hMe125,hcc125⟩:=Kd.N_get HO124.out [] (l0.length:Int) p125 (by first|exact q125|exact of_decide_eq_true (by first|(with_reducible assumption)|assumption)|(have e_:=(Kd.Qs HO124.out).1;omega));obtain ⟨ua125_0,uc125_0,rfl,ul125_0,ge125_0⟩:=Kd.FK_slice_open hMe125;have hv125_0:=hcc125 0 _ rfl;rw [Nat.add_zero,show ((Kd.slice 3 (Kd.int .i64))).sz=1 from rfl,Nat.mul_one] at hv125_0;replace hv125_0:=Option.some.inj (hv125_0.symm.trans hx125_0)
                  injection hv125_0 with hva_ hvn_ hvc_
                  rw [hva_] at ge125_0;rw [hvc_] at ul125_0;have HL125_0:=aM (show Kd.V (Kd.int .i64) 3 _ w.heap.size _ _ (rd_L2 t122 (l0.length:Int)) from Kd.V_mk ul125_0 ge125_0);clear hva_ hvn_ hvc_ ge125_0 ul125_0;clear hcc125 hce125;have HR125_0:=aM hi125_0;have HC125_0:=aM hl125_0;clear hi125_0 hl125_0;(try simp only [Go.IntWalk.toNatUp] at hx125_0);replace p125:=eq_true p125;replace q125:=eq_true q125;have p126:0≤(a2:Int):=of_decide_eq_true (by first|(with_reducible assumption)|assumption);have q126:a2<((rd_L2 t122 (l0.length:Int)).length:Int):=of_decide_eq_true (by first|(with_reducible assumption)|assumption);obtain ⟨ad126,e126,hx126_0⟩:=Kd.at_int (by repeat (first|(with_reducible exact HR125_0.out)|(with_reducible refine Kd.Qj ?_ _)|(with_reducible refine Kd.Qk ?_ _)|(with_reducible refine Kd.C_drew ?_)|exact HR125_0.out)) a2 p126 q126
                  cases e126
                  replace p126:=eq_true p126;replace q126:=eq_true q126;refine hK.out _ _ trivial (fun hHeld=>?_);clear hK K;refine spec_DropOffer.more_ (S:=fun w'=>True) (S':=fun w'=>w'.cell? (ad125.add l0.length)=some (.slice (some ad126) (rd_L2 t122 (l0.length:Int)).length c125_0)∧w'.cell? (ad126.add (a2).toNat)=some (.int .i64 (rd (rd_L2 t122 (l0.length:Int)) a2))∧True) (fun _ h_=>h_.2.2) _ _ _ _ ⟨hx125_0,hx126_0,hHeld⟩ ?_;replace hHeld:=And.intro hx125_0 (And.intro hx126_0 (hHeld));refine norm_ (a':=?_) ?_ ?_
                  rotate_left
                  ·show Act.put _ (some 40) _=_
                   simp only [Act.put,aA,aB,aC,i64_w,i32_w]
                   rfl
                  refine pure_ (i:=5) (N:=some 43) (v:=?_) (a':=?_) #[true,true,true,true,true,true,false,true,false,false,true,true,false,true,true,false,false,true,false,false,false,false,false] rfl rfl (any_of HT_.out (by kernel_rfl)) (fun _ _ _ h=>h) (Or.inl ⟨by rfl,?_⟩) ?_ ?_
                  rotate_left
                  ·intro w'
                   go_simp
                   with_reducible rfl
                  rotate_left
                  ·simp only [Act.put,aA,aB,aC,i64_w,i32_w]
                   rfl
                  refine take_ (i:=6) (N:=some 44) (v:=?_) (a':=?_) #[true,true,true,true,true,true,true,true,false,false,true,true,false,true,true,false,false,true,false,false,false,false,false] rfl rfl (take_ofW HT_.out HW_.out (by kernel_rfl)) (fun _ _ _ h=>h) (Or.inl ⟨by rfl,?_⟩) hHeld ?_ ?_
                  rotate_left
                  ·rintro w' ⟨s0,s1,s2⟩
                   go_simp
                   with_reducible rfl
                  rotate_left
                  ·simp only [Act.put,aA,aB,aC,i64_w,i32_w]
                   rfl
                  refine pure_ (i:=8) (N:=some 46) (v:=?_) (a':=?_) #[true,true,true,true,true,true,true,true,true,false,true,true,false,true,true,false,false,true,false,false,false,false,false] rfl rfl (any_of HT_.out (by kernel_rfl)) (fun _ _ _ h=>h) (Or.inl ⟨by rfl,?_⟩) ?_ ?_
                  rotate_left
                  ·intro w'
                   go_simp
                   with_reducible rfl
                  rotate_left
                  ·simp only [Act.put,aA,aB,aC,i64_w,i32_w]
                   rfl
                  refine take_ (i:=9) (N:=some 47) (v:=?_) (a':=?_) #[true,true,true,true,true,true,true,true,true,true,true,true,false,true,true,false,false,true,false,false,false,false,false] rfl rfl (take_ofW HT_.out HW_.out (by kernel_rfl)) (fun _ _ _ h=>h) (Or.inl ⟨by rfl,?_⟩) hHeld ?_ ?_
                  rotate_left
                  ·rintro w' ⟨s0,s1,s2⟩
                   go_simp
                   with_reducible rfl
                  rotate_left
                  ·simp only [Act.put,aA,aB,aC,i64_w,i32_w]
                   rfl
                  refine one_ (i:=12) (N:=some 50) #[true,true,true,true,true,true,true,true,true,true,true,true,true,true,true,false,false,true,false,false,false,false,false] rfl rfl (one_of HT_.out (by kernel_rfl)) (by decide) (fun K hK=>?_)
                  first|(refine goes_ Try.func143 (by kernel_rfl) rfl #[.slice Ao38 y119.length co38,.int .i64 a2] (by rfl) rfl rfl (by (try simp only [aD,aE,aF]);first|done|rfl|(simp only [aG,aH];rfl)) ?_)|(refine call_ 143 #[.slice Ao38 y119.length co38,.int .i64 a2] (by rfl) rfl (by unfold execOp;simp [resolve,Deferred.ofValue,invoke,Act.eval,enters_ Try.func143 (by kernel_rfl) rfl]) ?_)
                  with_reducible refine (spec_l6Rows.calls kj3 _ _ y119 a2 t127 _ ?side1 ?side2 A27.out).mono ?_
                  (case side1=>repeat (first|exact (Kd.Qs HO121.out).2.2|(with_reducible refine Kd.Qj ?_ _)|(with_reducible refine Kd.Qk ?_ _)|(with_reducible refine Kd.C_drew ?_)))
                  (case side2=>exact (Kd.Qs HO121.out).2.1)
                  rintro e w41 ⟨v128,rfl,ho0,hb⟩
                  have HS0_:=(hb.cell (aI _ _ (hHeld.1))).trans (hHeld.1);have HS1_:=(hb.cell (aI _ _ (hHeld.2.1))).trans (hHeld.2.1);refine ⟨_,rfl,?_⟩;have n0_:=aM (Kd.V_elder' (by (with_reducible repeat (first|apply Kd.V_alloc|apply Kd.V_drewN|apply Kd.V_drew));exact HO_0.out) (Kd.N_base ho0) hb);have n1_:=aM (Kd.V_elder' (by (with_reducible repeat (first|apply Kd.V_alloc|apply Kd.V_drewN|apply Kd.V_drew));exact HO110.out) (Kd.N_base ho0) hb);have n2_:=aM (Kd.V_elder' (by (with_reducible repeat (first|apply Kd.V_alloc|apply Kd.V_drewN|apply Kd.V_drew));exact HO118.out) (Kd.N_base ho0) hb);have n3_:=aM (Kd.N_elder' (by (with_reducible repeat (first|apply Kd.Ql|apply Kd.Qm|apply Kd.N_drew));exact HO121.out) (Kd.N_base ho0) hb);have n4_:=aM (Kd.N_elder' (by (with_reducible repeat (first|apply Kd.Ql|apply Kd.Qm|apply Kd.N_drew));exact HO124.out) (Kd.N_base ho0) hb);have n5_:=aM (Kd.V_elder' (by (with_reducible repeat (first|apply Kd.V_alloc|apply Kd.V_drewN|apply Kd.V_drew));exact HL125_0.out) (Kd.N_base ho0) hb);have n6_:=aM (Kd.N_lower (Kd.N_mono (ok':=fun k_=>(P0_ k_∨w.heap.size≤k_)∧some k_≠(.slice Ao38 y119.length co38:Value).ownBlock∧some k_≠(.slice (some ad125) t122.length co40:Value).ownBlock) ho0 (fun k_ hk_=>⟨(.inr (Nat.le_trans (Qh (by repeat (first|(with_reducible first|exact HB.out|apply Qc|apply Qa|apply Qb)|exact HB.out))) hk_)),(Kd.fresh' (Kd.N_lt (by (with_reducible repeat (first|apply Kd.Ql|apply Kd.Qm|apply Kd.N_drew));exact HO121.out)) k_ hk_),(Kd.fresh' (Kd.N_lt (by (with_reducible repeat (first|apply Kd.Ql|apply Kd.Qm|apply Kd.N_drew));exact HO124.out)) k_ hk_)⟩)) (Qh (by repeat (first|(with_reducible first|exact HB.out|apply Qc|apply Qa|apply Qb)|exact HB.out))));have n7_:=aM (Kd.C_below (by repeat (first|(with_reducible exact HR125_0.out)|(with_reducible refine Kd.Qj ?_ _)|(with_reducible refine Kd.Qk ?_ _)|(with_reducible refine Kd.C_drew ?_)|exact HR125_0.out)) hb);have n8_:=aM (Qi (by repeat (first|(with_reducible first|exact HB.out|apply Qc|apply Qa|apply Qb)|exact HB.out)) hb);clear HO_0;clear HO110;clear HO118;clear HO121;clear HO124;clear HL125_0;clear HR125_0;clear HB;have HO_0:=n0_;have HO110:=n1_;have HO118:=n2_;have HO121:=n3_;have HO124:=n4_;have HL125_0:=n5_;have HO129:=n6_;have HR125_0:=n7_;have HB:=n8_;clear n0_ n1_ n2_ n3_ n4_ n5_ n6_ n7_ n8_;(try clear hb);(try clear hb2);(try clear hk);(try clear hi);(try clear ho0);obtain ⟨Ao42,co42,eo42⟩:=Kd.N_slice HO129.out
                  (first|subst eo42|(injection eo42 with f1_ f2_ f3_;have f4_:=f1_.symm;have f5_:=f3_.symm;clear f1_ f2_ f3_;subst f4_;subst f5_))
                  have p130:0≤((y119.length:Int):Int):=of_decide_eq_true (by first|(with_reducible assumption)|assumption);have q130:(y119.length:Int)<(t127.length:Int):=of_decide_eq_true (by first|(with_reducible assumption)|assumption);obtain ⟨ad130,A130_0,c130_0,e130,hx130_0,hl130_0,hi130_0⟩:=at_L2 (Kd.Qs HO129.out).2.2 (y119.length:Int) p130 q130
                  cases e130
                  obtain ⟨ce130,hce130,hMe130,hcc130⟩:=Kd.N_get HO129.out [] (y119.length:Int) p130 (by first|exact q130|exact of_decide_eq_true (by first|(with_reducible assumption)|assumption)|(have e_:=(Kd.Qs HO129.out).1;omega));obtain ⟨ua130_0,uc130_0,rfl,ul130_0,ge130_0⟩:=Kd.FK_slice_open hMe130;have hv130_0:=hcc130 0 _ rfl;rw [Nat.add_zero,show ((Kd.slice 3 (Kd.int .i64))).sz=1 from rfl,Nat.mul_one] at hv130_0;replace hv130_0:=Option.some.inj (hv130_0.symm.trans hx130_0)
                  injection hv130_0 with hva_ hvn_ hvc_
                  rw [hva_] at ge130_0;rw [hvc_] at ul130_0;have HL130_0:=aM (show Kd.V (Kd.int .i64) 3 _ w.heap.size _ _ (rd_L2 t127 (y119.length:Int)) from Kd.V_mk ul130_0 ge130_0);clear hva_ hvn_ hvc_ ge130_0 ul130_0;clear hcc130 hce130;have HR130_0:=aM hi130_0;have HC130_0:=aM hl130_0;clear hi130_0 hl130_0;(try simp only [Go.IntWalk.toNatUp] at hx130_0);replace p130:=eq_true p130;replace q130:=eq_true q130;have p131:0≤(a2:Int):=of_decide_eq_true (by first|(with_reducible assumption)|assumption);have q131:a2<((rd_L2 t127 (y119.length:Int)).length:Int):=of_decide_eq_true (by first|(with_reducible assumption)|assumption);obtain ⟨ad131,e131,hx131_0⟩:=Kd.at_int (by repeat (first|(with_reducible exact HR130_0.out)|(with_reducible refine Kd.Qj ?_ _)|(with_reducible refine Kd.Qk ?_ _)|(with_reducible refine Kd.C_drew ?_)|exact HR130_0.out)) a2 p131 q131
                  cases e131
                  replace p131:=eq_true p131;replace q131:=eq_true q131;refine hK.out _ _ ⟨HS0_,HS1_,trivial⟩ (fun hHeld=>?_);clear hK K;refine spec_DropOffer.more_ (S:=fun w'=>w'.cell? (ad125.add l0.length)=some (.slice (some ad126) (rd_L2 t122 (l0.length:Int)).length c125_0)∧w'.cell? (ad126.add (a2).toNat)=some (.int .i64 (rd (rd_L2 t122 (l0.length:Int)) a2))∧True) (S':=fun w'=>w'.cell? (ad130.add y119.length)=some (.slice (some ad131) (rd_L2 t127 (y119.length:Int)).length c130_0)∧w'.cell? (ad131.add (a2).toNat)=some (.int .i64 (rd (rd_L2 t127 (y119.length:Int)) a2))∧w'.cell? (ad125.add l0.length)=some (.slice (some ad126) (rd_L2 t122 (l0.length:Int)).length c125_0)∧w'.cell? (ad126.add (a2).toNat)=some (.int .i64 (rd (rd_L2 t122 (l0.length:Int)) a2))∧True) (fun _ h_=>h_.2.2) _ _ _ _ ⟨hx130_0,hx131_0,hHeld⟩ ?_;replace hHeld:=And.intro hx130_0 (And.intro hx131_0 (hHeld));refine norm_ (a':=?_) ?_ ?_
                  rotate_left
                  ·show Act.put _ (some 50) _=_
                   simp only [Act.put,aA,aB,aC,i64_w,i32_w]
                   rfl
                  refine pure_ (i:=15) (N:=some 53) (v:=?_) (a':=?_) #[true,true,true,true,true,true,true,true,true,true,true,true,true,true,true,true,false,true,false,false,false,false,false] rfl rfl (any_of HT_.out (by kernel_rfl)) (fun _ _ _ h=>h) (Or.inl ⟨by rfl,?_⟩) ?_ ?_
                  rotate_left
                  ·intro w'
                   go_simp
                   with_reducible rfl
                  rotate_left
                  ·simp only [Act.put,aA,aB,aC,i64_w,i32_w]
                   rfl
                  refine take_ (i:=16) (N:=some 54) (v:=?_) (a':=?_) #[true,true,true,true,true,true,true,true,true,true,true,true,true,true,true,true,true,true,false,false,false,false,false] rfl rfl (take_ofW HT_.out HW_.out (by kernel_rfl)) (fun _ _ _ h=>h) (Or.inl ⟨by rfl,?_⟩) hHeld ?_ ?_
                  rotate_left
                  ·rintro w' ⟨s0,s1,s2,s3,s4⟩
                   go_simp
                   with_reducible rfl
                  rotate_left
                  ·simp only [Act.put,aA,aB,aC,i64_w,i32_w]
                   rfl
                  refine pure_ (i:=18) (N:=some 56) (v:=?_) (a':=?_) #[true,true,true,true,true,true,true,true,true,true,true,true,true,true,true,true,true,true,true,false,false,false,false] rfl rfl (any_of HT_.out (by kernel_rfl)) (fun _ _ _ h=>h) (Or.inl ⟨by rfl,?_⟩) ?_ ?_
                  rotate_left
                  ·intro w'
                   go_simp
                   with_reducible rfl
                  rotate_left
                  ·simp only [Act.put,aA,aB,aC,i64_w,i32_w]
                   rfl
                  refine take_ (i:=19) (N:=some 57) (v:=?_) (a':=?_) #[true,true,true,true,true,true,true,true,true,true,true,true,true,true,true,true,true,true,true,true,false,false,false] rfl rfl (take_ofW HT_.out HW_.out (by kernel_rfl)) (fun _ _ _ h=>h) (Or.inl ⟨by rfl,?_⟩) hHeld ?_ ?_
                  rotate_left
                  ·rintro w' ⟨s0,s1,s2,s3,s4⟩
                   go_simp
                   with_reducible rfl
                  rotate_left
                  ·simp only [Act.put,aA,aB,aC,i64_w,i32_w]
                   rfl
                  refine pure_ (i:=20) (N:=some 58) (v:=?_) (a':=?_) #[true,true,true,true,true,true,true,true,true,true,true,true,true,true,true,true,true,true,true,true,true,false,false] rfl rfl (any_of HT_.out (by kernel_rfl)) (fun _ _ _ h=>h) (Or.inl ⟨by rfl,?_⟩) ?_ ?_
                  rotate_left
                  ·intro w'
                   go_simp
                   with_reducible rfl
                  rotate_left
                  ·simp only [Act.put,aA,aB,aC,i64_w,i32_w]
                   rfl
                  refine pure_ (i:=21) (N:=some 6) (v:=?_) (a':=?_) #[true,true,true,true,true,true,true,true,true,true,true,true,true,true,true,true,true,true,true,true,true,true,false] rfl rfl (any_of HT_.out (by kernel_rfl)) (fun _ _ _ h=>h) (Or.inl ⟨by rfl,?_⟩) ?_ ?_
                  rotate_left
                  ·intro w'
                   go_simp
                   with_reducible rfl
                  rotate_left
                  ·simp only [Act.put,aA,aB,aC,i64_w,i32_w]
                   rfl
                  refine pure_ (i:=22) (N:=some 7) (v:=?_) (a':=?_) #[true,true,true,true,true,true,true,true,true,true,true,true,true,true,true,true,true,true,true,true,true,true,true] rfl rfl (any_of HT_.out (by kernel_rfl)) (fun _ _ _ h=>h) (Or.inl ⟨by rfl,?_⟩) ?_ ?_
                  rotate_left
                  ·intro w'
                   go_simp
                   with_reducible rfl
                  rotate_left
                  ·simp only [Act.put,aA,aB,aC,i64_w,i32_w]
                   rfl
                  refine done_ (done_of HT_.out (by kernel_rfl)) ?_
                  try go_wp2
                  go_ret2
                  exact ⟨by first|rfl|(simp [errW_none,errW_some] <;> rfl)|(simp only [←hji18];first|rfl|(simp [errW_none,errW_some] <;> rfl))|(simp [*,errW_none,errW_some] <;> rfl),by repeat (first|(with_reducible first|exact HB.out|apply Qc|apply Qa|apply Qb)|exact HB.out)⟩
                 ·rw [if_neg c30] at H;exact absurd H (by simp)
                ·rw [if_neg c29] at H;exact absurd H (by simp)
               ·rw [if_neg c28] at H;exact absurd H (by simp)
              ·rw [if_neg c26] at H;exact absurd H (by simp)
             ·rw [if_neg c25] at H;exact absurd H (by simp)
            ·rw [if_neg c24] at H;exact absurd H (by simp)
           ·rw [if_neg c23] at H;exact absurd H (by simp)
          ·rw [if_neg c21] at H;exact absurd H (by simp)
         ·rw [if_neg c20] at H;exact absurd H (by simp)
        ·rw [if_neg c19] at H;exact absurd H (by simp)
       ·rw [if_neg c17] at H;exact absurd H (by simp)
      ·rw [if_neg c16] at H;exact absurd H (by simp)
     ·rw [if_neg c15] at H;exact absurd H (by simp)

mutual
def laws_FnTables.j0:Nat→List Int→List (S53)→Int→List Int→Bool→Bool→Option (Bool)
  |0,_,_,_,_,_,_=>none
  |k+1,x1,x5,x6,x7,x8,x60=>if x60=true then (some false) else (if x8=true then (laws_FnTables.l0 k x1 x5 x6 x7 ([]:List (S53)) (wrap64 ((x5.length:Int) - 1))) else (laws_FnTables.j4 k x1))
def laws_FnTables.j4:Nat→List Int→Option (Bool)
  |0,_=>none
  |k+1,x1=>(spec_DrawDropOffer.f k x1).bind fun bt132=>((impl_DropOffer.f k bt132.1 bt132.2.1 bt132.2.2).bind fun bt137=>((spec_DropOffer.f k bt132.1 bt132.2.1 bt132.2.2).bind fun bt139=>(if (bt137.2 != bt139.2)=true then (laws_FnTables.j5 k bt132.1 bt132.2.1 bt132.2.2 bt137.1 bt137.2 true) else (laws_FnTables.j5 k bt132.1 bt132.2.1 bt132.2.2 bt137.1 bt137.2 (bt137.1 != bt139.1)))))
def laws_FnTables.j5:Nat→List (S53)→Int→Int→Int→Bool→Bool→Option (Bool)
  |0,_,_,_,_,_,_=>none
  |k+1,x19,x20,x21,x22,x23,x165=>if x165=true then (some false) else (if x23=true then (if 0≤x20 then (if x20≤(wrap64 (x20+1)) then (if (wrap64 (x20+1))≤(x19.length:Int) then ((impl_BestChoice.f k ((x19.take ((wrap64 (x20+1)):Int).toNat).drop (x20:Int).toNat) x21).bind fun bt146=>(if bt146.2.2=true then (if x22 ≥ 0 then (some (decide (x22≤bt146.2.1))) else (some false)) else (some false))) else (none)) else (none)) else (none)) else (some true))
def laws_FnTables.l0:Nat→List Int→List (S53)→Int→List Int→List (S53)→Int→Option (Bool)
  |0,_,_,_,_,_,_=>none
  |k+1,x1,x5,x6,x7,x11,x12=>if x12 ≥ 0 then (if 0≤x12 then (if x12<(x5.length:Int) then (if x11.length<5864062014805 then (laws_FnTables.l0 k x1 x5 x6 x7 (x11 ++ [(⟨(rd_T53 x5 x12).f0⟩:S53)]) (wrap64 (x12 - 1))) else (none)) else (none)) else (none)) else ((impl_BestTable.f k x11 x6).bind fun bt118=>((impl_BestChoice.f k x5 x6).bind fun bt122=>(if (x7.length:Int)=(wrap64 (x6+1)) then (if 0<(x7.length:Int) then (if (rd x7 0)=0 then (if bt118.2=true then ((laws_sameInts.f k bt118.1 x7).bind fun t128=>(if t128=true then (if bt122.2.2=true then (if 0≤x6 then (if x6<(x7.length:Int) then (laws_FnTables.j2 k x1 x7 (bt122.2.1 != (rd x7 x6))) else (none)) else (none)) else (laws_FnTables.j2 k x1 x7 true)) else (laws_FnTables.j2 k x1 x7 true))) else (laws_FnTables.j2 k x1 x7 true)) else (laws_FnTables.j2 k x1 x7 true)) else (none)) else (laws_FnTables.j2 k x1 x7 true))))
def laws_FnTables.j2:Nat→List Int→List Int→Bool→Option (Bool)
  |0,_,_,_=>none
  |k+1,x1,x7,x121=>if x121=true then (some false) else (laws_FnTables.l1 k x1 x7 1)
def laws_FnTables.l1:Nat→List Int→List Int→Int→Option (Bool)
  |0,_,_,_=>none
  |k+1,x1,x7,x18=>if x18<(x7.length:Int) then (if 0≤x18 then (if 0≤(wrap64 (x18 - 1)) then (if (wrap64 (x18 - 1))<(x7.length:Int) then (if (rd x7 x18)<(rd x7 (wrap64 (x18 - 1))) then (some false) else (laws_FnTables.l1 k x1 x7 (wrap64 (x18+1)))) else (none)) else (none)) else (none)) else (laws_FnTables.j4 k x1)
end
def laws_FnTables.f (k:Nat) (l0:List Int) (l1:List Int):Option (Bool):=if (wrap64 ((l0.length:Int)+(l1.length:Int))) > 1048576 then (some true) else ((spec_DrawBestTable.f k l0).bind fun bt101=>((impl_BestTable.f k bt101.1 bt101.2).bind fun bt105=>((spec_BestTable.f k bt101.1 bt101.2).bind fun bt109=>(if (bt105.2 != bt109.2)=true then (laws_FnTables.j0 k l1 bt101.1 bt101.2 bt105.1 bt105.2 true) else ((laws_sameInts.f k bt105.1 bt109.1).bind fun t113=>(laws_FnTables.j0 k l1 bt101.1 bt101.2 bt105.1 bt105.2 (!t113)))))))
set_option maxHeartbeats 8000000 in
set_option maxRecDepth 100000 in
theorem laws_FnTables.calls (k:Nat) (A0:Option Addr) (c0:Nat) (l0:List Int) (A1:Option Addr) (c1:Nat) (l1:List Int) (r:Bool) (w:World) (hr0:Kd.C (Kd.int .u8) w A0 l0.length l0) (hc0:l0.length≤c0) (hr1:Kd.C (Kd.int .u8) w A1 l1.length l1) (hc1:l1.length≤c1) (h:laws_FnTables.f k l0 l1=some r) :
    Calls Try.prog 5 #[.slice A0 l0.length c0,.slice A1 l1.length c1] w fun e w'=>e= .returned (.bool r)∧Below w.heap.size w w':=by
  have hu53:=Try.underlying53;have HR0:=aM hr0;have HC0:=aM hc0;clear hr0 hc0;have HR1:=aM hr1;have HC1:=aM hc1;clear hr1 hc1;have HB:=aM (Below.refl w.heap.size w);have H:(if (wrap64 ((l0.length:Int)+(l1.length:Int))) > 1048576 then (some true) else ((spec_DrawBestTable.f k l0).bind fun bt101=>((impl_BestTable.f k bt101.1 bt101.2).bind fun bt105=>((spec_BestTable.f k bt101.1 bt101.2).bind fun bt109=>(if (bt105.2 != bt109.2)=true then (laws_FnTables.j0 k l1 bt101.1 bt101.2 bt105.1 bt105.2 true) else ((laws_sameInts.f k bt105.1 bt109.1).bind fun t113=>(laws_FnTables.j0 k l1 bt101.1 bt101.2 bt105.1 bt105.2 (!t113))))))))=some r:=h;clear h;by_cases c3:(wrap64 ((l0.length:Int)+(l1.length:Int))) > 1048576
  ·rw [if_pos c3] at H;have c3b0:decide (1048576<(wrap64 ((l0.length:Int)+(l1.length:Int))))=true:=decide_eq_true c3;clear c3
   as_aux_lemma=>
    obtain rfl:=Option.some.inj H;go_enter Try.func5,Try.ntmps5;go_wp2
    repeat (go_quiet (fail);try go_wp2)
    go_ret
    exact ⟨by first|rfl|(simp [errW_none,errW_some] <;> rfl)|(simp [*,errW_none,errW_some] <;> rfl),by repeat (first|(with_reducible first|exact HB.out|apply Qc|apply Qa|apply Qb)|exact HB.out)⟩
  ·rw [if_neg c3] at H;have c3b0:decide (1048576<(wrap64 ((l0.length:Int)+(l1.length:Int))))=false:=decide_eq_false c3;clear c3;replace H:=Option.bind_eq_some_iff.mp H;obtain ⟨⟨t101,t102⟩,A40,H⟩:=H;replace H:((impl_BestTable.f k t101 t102).bind fun bt105=>((spec_BestTable.f k t101 t102).bind fun bt109=>(if (bt105.2 != bt109.2)=true then (laws_FnTables.j0 k l1 t101 t102 bt105.1 bt105.2 true) else ((laws_sameInts.f k bt105.1 bt109.1).bind fun t113=>(laws_FnTables.j0 k l1 t101 t102 bt105.1 bt105.2 (!t113))))))=some r:=H;have A4:=aM A40;clear A40;replace H:=Option.bind_eq_some_iff.mp H;obtain ⟨⟨t105,t108⟩,A50,H⟩:=H;replace H:((spec_BestTable.f k t101 t102).bind fun bt109=>(if (t108 != bt109.2)=true then (laws_FnTables.j0 k l1 t101 t102 t105 t108 true) else ((laws_sameInts.f k t105 bt109.1).bind fun t113=>(laws_FnTables.j0 k l1 t101 t102 t105 t108 (!t113)))))=some r:=H;have A5:=aM A50;clear A50;replace H:=Option.bind_eq_some_iff.mp H;obtain ⟨⟨t109,t112⟩,A60,H⟩:=H;replace H:(if (t108 != t112)=true then (laws_FnTables.j0 k l1 t101 t102 t105 t108 true) else ((laws_sameInts.f k t105 t109).bind fun t113=>(laws_FnTables.j0 k l1 t101 t102 t105 t108 (!t113))))=some r:=H;have A6:=aM A60;clear A60;have HC7:=aM H;clear H;go_enter Try.func5,Try.ntmps5
   go_upto_region 6 with (first|(go_at_call 37;(with_reducible refine (spec_DrawBestTable.calls k _ _ l0 t101 t102 _ ?side1 ?side2 A4.out).mono ?_);(case side1=>repeat (first|exact HR0.out|(with_reducible refine Kd.Qj ?_ _)|(with_reducible refine Kd.Qk ?_ _)|(with_reducible refine Kd.C_drew ?_)));(case side2=>exact HC0.out);rintro e w8 ⟨v103,rfl,ho0,hb⟩;have n0_:=aM (Kd.N_lower (Kd.N_mono (ok':=fun k_=>True) (Kd.S_N (Kd.S_bound ho0)) (fun k_ hk_=>trivial)) (Qh (by repeat (first|(with_reducible first|exact HB.out|apply Qc|apply Qa|apply Qb)|exact HB.out))));have n1_:=aM (Qi (by repeat (first|(with_reducible first|exact HB.out|apply Qc|apply Qa|apply Qb)|exact HB.out)) hb);clear HB;have HO104:=n0_;have HB:=n1_;clear n0_ n1_;(try clear hb);(try clear hb2);(try clear hk);(try clear hi);(try clear ho0);obtain ⟨Ao9,co9,eo9⟩:=Kd.N_slice HO104.out;subst eo9)|(go_at_call 38;(with_reducible refine (impl_BestTable.calls k _ _ t101 t102 t105 t108 _ ?side1 ?side2 A5.out).mono ?_);(case side1=>repeat (first|exact (Kd.Qs HO104.out).2.2|(with_reducible refine Kd.Qj ?_ _)|(with_reducible refine Kd.Qk ?_ _)|(with_reducible refine Kd.C_drew ?_)));(case side2=>exact (Kd.Qs HO104.out).2.1);rintro e w10 ⟨v106,rfl,ho0,hb⟩;have n0_:=aM (Kd.N_below (by (with_reducible repeat (first|apply Kd.Ql|apply Kd.Qm|apply Kd.N_drew));exact HO104.out) hb);have n1_:=aM (Kd.V_lower (Kd.V_mono (ok':=fun k_=>some k_≠(.slice Ao9 t101.length co9:Value).ownBlock) ho0 (fun k_ hk_=>(Kd.fresh' (Kd.N_lt (by (with_reducible repeat (first|apply Kd.Ql|apply Kd.Qm|apply Kd.N_drew));exact HO104.out)) k_ hk_))) (Qh (by repeat (first|(with_reducible first|exact HB.out|apply Qc|apply Qa|apply Qb)|exact HB.out))));have n2_:=aM (Qi (by repeat (first|(with_reducible first|exact HB.out|apply Qc|apply Qa|apply Qb)|exact HB.out)) hb);clear HO104;clear HB;have HO104:=n0_;have HO107:=n1_;have HB:=n2_;clear n0_ n1_ n2_;(try clear hb);(try clear hb2);(try clear hk);(try clear hi);(try clear ho0))|(go_at_call 39;(with_reducible refine (spec_BestTable.calls k _ _ t101 t102 t109 t112 _ ?side1 ?side2 A6.out).mono ?_);(case side1=>repeat (first|exact (Kd.Qs HO104.out).2.2|(with_reducible refine Kd.Qj ?_ _)|(with_reducible refine Kd.Qk ?_ _)|(with_reducible refine Kd.C_drew ?_)));(case side2=>exact (Kd.Qs HO104.out).2.1);rintro e w11 ⟨v110,rfl,ho0,hb⟩;have n0_:=aM (Kd.N_below (by (with_reducible repeat (first|apply Kd.Ql|apply Kd.Qm|apply Kd.N_drew));exact HO104.out) hb);have n1_:=aM (Kd.V_below (by (with_reducible repeat (first|apply Kd.V_alloc|apply Kd.V_drewN|apply Kd.V_drew));exact HO107.out) hb);have n2_:=aM (Kd.V_lower (Kd.V_mono (ok':=fun k_=>some k_≠(.slice Ao9 t101.length co9:Value).ownBlock) ho0 (fun k_ hk_=>(Kd.fresh' (Kd.N_lt (by (with_reducible repeat (first|apply Kd.Ql|apply Kd.Qm|apply Kd.N_drew));exact HO104.out)) k_ hk_))) (Qh (by repeat (first|(with_reducible first|exact HB.out|apply Qc|apply Qa|apply Qb)|exact HB.out))));have n3_:=aM (Qi (by repeat (first|(with_reducible first|exact HB.out|apply Qc|apply Qa|apply Qb)|exact HB.out)) hb);clear HO104;clear HO107;clear HB;have HO104:=n0_;have HO107:=n1_;have HO111:=n2_;have HB:=n3_;clear n0_ n1_ n2_ n3_;(try clear hb);(try clear hb2);(try clear hk);(try clear hi);(try clear ho0)))
   repeat (go_quiet (first|(go_at_call 37;(with_reducible refine (spec_DrawBestTable.calls k _ _ l0 t101 t102 _ ?side1 ?side2 A4.out).mono ?_);(case side1=>repeat (first|exact HR0.out|(with_reducible refine Kd.Qj ?_ _)|(with_reducible refine Kd.Qk ?_ _)|(with_reducible refine Kd.C_drew ?_)));(case side2=>exact HC0.out);rintro e w8 ⟨v103,rfl,ho0,hb⟩;have n0_:=aM (Kd.N_lower (Kd.N_mono (ok':=fun k_=>True) (Kd.S_N (Kd.S_bound ho0)) (fun k_ hk_=>trivial)) (Qh (by repeat (first|(with_reducible first|exact HB.out|apply Qc|apply Qa|apply Qb)|exact HB.out))));have n1_:=aM (Qi (by repeat (first|(with_reducible first|exact HB.out|apply Qc|apply Qa|apply Qb)|exact HB.out)) hb);clear HB;have HO104:=n0_;have HB:=n1_;clear n0_ n1_;(try clear hb);(try clear hb2);(try clear hk);(try clear hi);(try clear ho0);obtain ⟨Ao9,co9,eo9⟩:=Kd.N_slice HO104.out;subst eo9)|(go_at_call 38;(with_reducible refine (impl_BestTable.calls k _ _ t101 t102 t105 t108 _ ?side1 ?side2 A5.out).mono ?_);(case side1=>repeat (first|exact (Kd.Qs HO104.out).2.2|(with_reducible refine Kd.Qj ?_ _)|(with_reducible refine Kd.Qk ?_ _)|(with_reducible refine Kd.C_drew ?_)));(case side2=>exact (Kd.Qs HO104.out).2.1);rintro e w10 ⟨v106,rfl,ho0,hb⟩;have n0_:=aM (Kd.N_below (by (with_reducible repeat (first|apply Kd.Ql|apply Kd.Qm|apply Kd.N_drew));exact HO104.out) hb);have n1_:=aM (Kd.V_lower (Kd.V_mono (ok':=fun k_=>some k_≠(.slice Ao9 t101.length co9:Value).ownBlock) ho0 (fun k_ hk_=>(Kd.fresh' (Kd.N_lt (by (with_reducible repeat (first|apply Kd.Ql|apply Kd.Qm|apply Kd.N_drew));exact HO104.out)) k_ hk_))) (Qh (by repeat (first|(with_reducible first|exact HB.out|apply Qc|apply Qa|apply Qb)|exact HB.out))));have n2_:=aM (Qi (by repeat (first|(with_reducible first|exact HB.out|apply Qc|apply Qa|apply Qb)|exact HB.out)) hb);clear HO104;clear HB;have HO104:=n0_;have HO107:=n1_;have HB:=n2_;clear n0_ n1_ n2_;(try clear hb);(try clear hb2);(try clear hk);(try clear hi);(try clear ho0))|(go_at_call 39;(with_reducible refine (spec_BestTable.calls k _ _ t101 t102 t109 t112 _ ?side1 ?side2 A6.out).mono ?_);(case side1=>repeat (first|exact (Kd.Qs HO104.out).2.2|(with_reducible refine Kd.Qj ?_ _)|(with_reducible refine Kd.Qk ?_ _)|(with_reducible refine Kd.C_drew ?_)));(case side2=>exact (Kd.Qs HO104.out).2.1);rintro e w11 ⟨v110,rfl,ho0,hb⟩;have n0_:=aM (Kd.N_below (by (with_reducible repeat (first|apply Kd.Ql|apply Kd.Qm|apply Kd.N_drew));exact HO104.out) hb);have n1_:=aM (Kd.V_below (by (with_reducible repeat (first|apply Kd.V_alloc|apply Kd.V_drewN|apply Kd.V_drew));exact HO107.out) hb);have n2_:=aM (Kd.V_lower (Kd.V_mono (ok':=fun k_=>some k_≠(.slice Ao9 t101.length co9:Value).ownBlock) ho0 (fun k_ hk_=>(Kd.fresh' (Kd.N_lt (by (with_reducible repeat (first|apply Kd.Ql|apply Kd.Qm|apply Kd.N_drew));exact HO104.out)) k_ hk_))) (Qh (by repeat (first|(with_reducible first|exact HB.out|apply Qc|apply Qa|apply Qb)|exact HB.out))));have n3_:=aM (Qi (by repeat (first|(with_reducible first|exact HB.out|apply Qc|apply Qa|apply Qb)|exact HB.out)) hb);clear HO104;clear HO107;clear HB;have HO104:=n0_;have HO107:=n1_;have HO111:=n2_;have HB:=n3_;clear n0_ n1_ n2_ n3_;(try clear hb);(try clear hb2);(try clear hk);(try clear hi);(try clear ho0)));go_upto_region 6 with (first|(go_at_call 37;(with_reducible refine (spec_DrawBestTable.calls k _ _ l0 t101 t102 _ ?side1 ?side2 A4.out).mono ?_);(case side1=>repeat (first|exact HR0.out|(with_reducible refine Kd.Qj ?_ _)|(with_reducible refine Kd.Qk ?_ _)|(with_reducible refine Kd.C_drew ?_)));(case side2=>exact HC0.out);rintro e w8 ⟨v103,rfl,ho0,hb⟩;have n0_:=aM (Kd.N_lower (Kd.N_mono (ok':=fun k_=>True) (Kd.S_N (Kd.S_bound ho0)) (fun k_ hk_=>trivial)) (Qh (by repeat (first|(with_reducible first|exact HB.out|apply Qc|apply Qa|apply Qb)|exact HB.out))));have n1_:=aM (Qi (by repeat (first|(with_reducible first|exact HB.out|apply Qc|apply Qa|apply Qb)|exact HB.out)) hb);clear HB;have HO104:=n0_;have HB:=n1_;clear n0_ n1_;(try clear hb);(try clear hb2);(try clear hk);(try clear hi);(try clear ho0);obtain ⟨Ao9,co9,eo9⟩:=Kd.N_slice HO104.out;subst eo9)|(go_at_call 38;(with_reducible refine (impl_BestTable.calls k _ _ t101 t102 t105 t108 _ ?side1 ?side2 A5.out).mono ?_);(case side1=>repeat (first|exact (Kd.Qs HO104.out).2.2|(with_reducible refine Kd.Qj ?_ _)|(with_reducible refine Kd.Qk ?_ _)|(with_reducible refine Kd.C_drew ?_)));(case side2=>exact (Kd.Qs HO104.out).2.1);rintro e w10 ⟨v106,rfl,ho0,hb⟩;have n0_:=aM (Kd.N_below (by (with_reducible repeat (first|apply Kd.Ql|apply Kd.Qm|apply Kd.N_drew));exact HO104.out) hb);have n1_:=aM (Kd.V_lower (Kd.V_mono (ok':=fun k_=>some k_≠(.slice Ao9 t101.length co9:Value).ownBlock) ho0 (fun k_ hk_=>(Kd.fresh' (Kd.N_lt (by (with_reducible repeat (first|apply Kd.Ql|apply Kd.Qm|apply Kd.N_drew));exact HO104.out)) k_ hk_))) (Qh (by repeat (first|(with_reducible first|exact HB.out|apply Qc|apply Qa|apply Qb)|exact HB.out))));have n2_:=aM (Qi (by repeat (first|(with_reducible first|exact HB.out|apply Qc|apply Qa|apply Qb)|exact HB.out)) hb);clear HO104;clear HB;have HO104:=n0_;have HO107:=n1_;have HB:=n2_;clear n0_ n1_ n2_;(try clear hb);(try clear hb2);(try clear hk);(try clear hi);(try clear ho0))|(go_at_call 39;(with_reducible refine (spec_BestTable.calls k _ _ t101 t102 t109 t112 _ ?side1 ?side2 A6.out).mono ?_);(case side1=>repeat (first|exact (Kd.Qs HO104.out).2.2|(with_reducible refine Kd.Qj ?_ _)|(with_reducible refine Kd.Qk ?_ _)|(with_reducible refine Kd.C_drew ?_)));(case side2=>exact (Kd.Qs HO104.out).2.1);rintro e w11 ⟨v110,rfl,ho0,hb⟩;have n0_:=aM (Kd.N_below (by (with_reducible repeat (first|apply Kd.Ql|apply Kd.Qm|apply Kd.N_drew));exact HO104.out) hb);have n1_:=aM (Kd.V_below (by (with_reducible repeat (first|apply Kd.V_alloc|apply Kd.V_drewN|apply Kd.V_drew));exact HO107.out) hb);have n2_:=aM (Kd.V_lower (Kd.V_mono (ok':=fun k_=>some k_≠(.slice Ao9 t101.length co9:Value).ownBlock) ho0 (fun k_ hk_=>(Kd.fresh' (Kd.N_lt (by (with_reducible repeat (first|apply Kd.Ql|apply Kd.Qm|apply Kd.N_drew));exact HO104.out)) k_ hk_))) (Qh (by repeat (first|(with_reducible first|exact HB.out|apply Qc|apply Qa|apply Qb)|exact HB.out))));have n3_:=aM (Qi (by repeat (first|(with_reducible first|exact HB.out|apply Qc|apply Qa|apply Qb)|exact HB.out)) hb);clear HO104;clear HO107;clear HB;have HO104:=n0_;have HO107:=n1_;have HO111:=n2_;have HB:=n3_;clear n0_ n1_ n2_ n3_;(try clear hb);(try clear hb2);(try clear hk);(try clear hi);(try clear ho0))))
   (try simp only [Act.put,aA,aB,aC])
   go_cut [60] (fun v60 wc=>∃ (kq:Nat) (x60_6:Bool),v60= .bool x60_6∧Aside0 (laws_FnTables.j0 kq l1 t101 t102 t105 t108 x60_6=some r)∧Aside0 (kq≤k)∧Aside0 (Kd.N k53 53 wc w.heap.size (fun _=>True) (.slice Ao9 t101.length co9) t101)∧Aside0 (Kd.V (Kd.int .i64) 3 wc w.heap.size (fun k_=>some k_≠((.slice Ao9 t101.length co9):Value).ownBlock) v106 t105)∧Aside0 (Below w.heap.size w wc))
   case first=>
    have H:=HC7.out;clear HC7;by_cases c12:(t108 != t112)=true
    ·rw [if_pos c12] at H;have c12b0:(t108 != t112)=true:=c12;(try (have c12b1:decide (t108=t112)=false:=by simpa using c12));(try (have c12b2:(t108 == t112)=false:=by simpa using c12));(try (have c12b3: ¬ (t108=t112):=by simpa using c12));clear c12
     (first|rw [c12b0]|(simp only [i64_w,i32_w];rw [c12b0])|skip)
     as_aux_lemma=>
      have H':=aM H;clear H;go_wp2
      repeat (go_quiet (fail);try go_wp2)
      go_meet
      case rel=>exact ⟨_,(true),(by first|rfl|(simp;done)|(simp [*];done)),H',⟨by first|omega|exact Nat.le_refl _⟩,⟨by (with_reducible repeat (first|apply Kd.Ql|apply Kd.Qm|apply Kd.N_drew));exact HO104.out⟩,⟨by (with_reducible repeat (first|apply Kd.V_alloc|apply Kd.V_drewN|apply Kd.V_drew));exact HO107.out⟩,⟨by repeat (first|(with_reducible first|exact HB.out|apply Qc|apply Qa|apply Qb)|exact HB.out)⟩⟩
    ·rw [if_neg c12] at H;have c12b0:(t108 != t112)=false:=by simpa using c12
     (try (have c12b1:decide (t108=t112)=true:=by simpa using c12));(try (have c12b2:(t108 == t112)=true:=by simpa using c12));clear c12
     (first|rw [c12b0]|(simp only [i64_w,i32_w];rw [c12b0])|skip)
     replace H:=Option.bind_eq_some_iff.mp H;obtain ⟨t113,A130,H⟩:=H;replace H:(laws_FnTables.j0 k l1 t101 t102 t105 t108 (!t113))=some r:=H;have A13:=aM A130;clear A130
     as_aux_lemma=>
      have H':=aM H;clear H;obtain ⟨Ao14,co14,eo14⟩:=Kd.V_slice HO107.out;subst eo14;obtain ⟨Ao15,co15,eo15⟩:=Kd.V_slice HO111.out;subst eo15;go_wp2_with (first|(go_at_call 20;(with_reducible refine (laws_sameInts.calls k _ _ t105 _ _ t109 t113 _ ?side1 ?side2 ?side3 ?side4 A13.out).mono ?_);(case side1=>repeat (first|exact (Kd.Qo HO107.out).2.2|(with_reducible refine Kd.Qj ?_ _)|(with_reducible refine Kd.Qk ?_ _)|(with_reducible refine Kd.C_drew ?_)));(case side2=>exact (Kd.Qo HO107.out).2.1);(case side3=>repeat (first|exact (Kd.Qo HO111.out).2.2|(with_reducible refine Kd.Qj ?_ _)|(with_reducible refine Kd.Qk ?_ _)|(with_reducible refine Kd.C_drew ?_)));(case side4=>exact (Kd.Qo HO111.out).2.1);rintro e w' ⟨rfl,⟨nd,rfl⟩⟩;(try first|exact ⟨rfl,_,World.drewN_drewN _ _ _⟩|exact ⟨rfl,_,Eq.trans (World.drewN_drewN _ _ _) (congrArg (World.drewN _) (Nat.add_assoc _ _ _))⟩)))
      repeat (go_quiet (first|(go_at_call 20;(with_reducible refine (laws_sameInts.calls k _ _ t105 _ _ t109 t113 _ ?side1 ?side2 ?side3 ?side4 A13.out).mono ?_);(case side1=>repeat (first|exact (Kd.Qo HO107.out).2.2|(with_reducible refine Kd.Qj ?_ _)|(with_reducible refine Kd.Qk ?_ _)|(with_reducible refine Kd.C_drew ?_)));(case side2=>exact (Kd.Qo HO107.out).2.1);(case side3=>repeat (first|exact (Kd.Qo HO111.out).2.2|(with_reducible refine Kd.Qj ?_ _)|(with_reducible refine Kd.Qk ?_ _)|(with_reducible refine Kd.C_drew ?_)));(case side4=>exact (Kd.Qo HO111.out).2.1);rintro e w' ⟨rfl,⟨nd,rfl⟩⟩;(try first|exact ⟨rfl,_,World.drewN_drewN _ _ _⟩|exact ⟨rfl,_,Eq.trans (World.drewN_drewN _ _ _) (congrArg (World.drewN _) (Nat.add_assoc _ _ _))⟩)));try go_wp2_with (first|(go_at_call 20;(with_reducible refine (laws_sameInts.calls k _ _ t105 _ _ t109 t113 _ ?side1 ?side2 ?side3 ?side4 A13.out).mono ?_);(case side1=>repeat (first|exact (Kd.Qo HO107.out).2.2|(with_reducible refine Kd.Qj ?_ _)|(with_reducible refine Kd.Qk ?_ _)|(with_reducible refine Kd.C_drew ?_)));(case side2=>exact (Kd.Qo HO107.out).2.1);(case side3=>repeat (first|exact (Kd.Qo HO111.out).2.2|(with_reducible refine Kd.Qj ?_ _)|(with_reducible refine Kd.Qk ?_ _)|(with_reducible refine Kd.C_drew ?_)));(case side4=>exact (Kd.Qo HO111.out).2.1);rintro e w' ⟨rfl,⟨nd,rfl⟩⟩;(try first|exact ⟨rfl,_,World.drewN_drewN _ _ _⟩|exact ⟨rfl,_,Eq.trans (World.drewN_drewN _ _ _) (congrArg (World.drewN _) (Nat.add_assoc _ _ _))⟩))))
      go_meet
      case rel=>exact ⟨_,(!t113),(by first|rfl|(simp;done)|(simp [*];done)),H',⟨by first|omega|exact Nat.le_refl _⟩,⟨by (with_reducible repeat (first|apply Kd.Ql|apply Kd.Qm|apply Kd.N_drew));exact HO104.out⟩,⟨by (with_reducible repeat (first|apply Kd.V_alloc|apply Kd.V_drewN|apply Kd.V_drew));exact HO107.out⟩,⟨by repeat (first|(with_reducible first|exact HB.out|apply Qc|apply Qa|apply Qb)|exact HB.out)⟩⟩
   case rest=>
    clear HC7;(try clear c1);(try clear p2);(try clear c3);(try clear c3b0);(try clear c5);(try clear p6);(try clear c12);(try clear c12b0);(try clear c12b1);(try clear c12b2);obtain ⟨kq,x60_6,rfl,HA,HJ6,HO_5,HO_7,HB⟩:=hcut
    cases kq with
    |zero=>exact absurd HA.out (by simp [laws_FnTables.j0])
    |succ kj6=>
     have H:=HA.out;clear HA;simp only [laws_FnTables.j0] at H;by_cases c16:x60_6=true
     ·subst c16;have H1:(some false)=some r:=by rw [if_pos rfl] at H;exact H
      clear H;have H:=H1;clear H1
      as_aux_lemma=>
       obtain rfl:=Option.some.inj H;go_wp2
       repeat (go_quiet (fail);try go_wp2)
       go_ret
       exact ⟨by first|rfl|(simp [errW_none,errW_some] <;> rfl)|(simp [*,errW_none,errW_some] <;> rfl),by repeat (first|(with_reducible first|exact HB.out|apply Qc|apply Qa|apply Qb)|exact HB.out)⟩
     ·replace c16:=Bool.eq_false_iff.mpr c16;subst c16;have H1:(if t108=true then (laws_FnTables.l0 kj6 l1 t101 t102 t105 ([]:List (S53)) (wrap64 ((t101.length:Int) - 1))) else (laws_FnTables.j4 kj6 l1))=some r:=by rw [if_neg (show ¬ (false=true) by decide)] at H;exact H
      clear H;have H:=H1;clear H1;have HC17:=aM H;clear H
      go_upto_if 61 with (fail)
      repeat (go_quiet (fail);go_upto_if 61 with (fail))
      go_cut [] (fun wc=>∃ (kq:Nat),Aside0 (laws_FnTables.j4 kq l1=some r)∧Aside0 (kq≤kj6)∧Aside0 (Below w.heap.size w wc))
      case first=>
       have H:=HC17.out;clear HC17;by_cases c18:t108=true
       ·subst c18;have H1:(laws_FnTables.l0 kj6 l1 t101 t102 t105 ([]:List (S53)) (wrap64 ((t101.length:Int) - 1)))=some r:=by rw [if_pos rfl] at H;exact H
        clear H;have H:=H1;clear H1;have H':=aM H;clear H;go_wp2
        repeat (go_quiet (fail);try go_wp2)
        go_loopg [11,12] kj6 (fun kq v11 v12 w'=>∃ (x11_2:List (S53)) (x12_2:Int),v12= .int .i64 x12_2∧Aside0 (laws_FnTables.l0 kq l1 t101 t102 t105 x11_2 x12_2=some r)∧Aside0 (kq≤kj6)∧Aside0 (Kd.N k53 53 w' w.heap.size (fun k_=>some k_≠(v11:Value).ownBlock) (.slice Ao9 t101.length co9) t101)∧Aside0 (Kd.V (Kd.int .i64) 3 w' w.heap.size (fun k_=>some k_≠((.slice Ao9 t101.length co9):Value).ownBlock∧some k_≠(v11:Value).ownBlock) v106 t105)∧Aside0 (Kd.N k53 53 w' w.heap.size (fun k_=>some k_≠((.slice Ao9 t101.length co9):Value).ownBlock) v11 x11_2)∧Aside0 (Below w.heap.size w w'))
        case atStart=>exact ⟨(([]:List (S53))),(wrap64 ((t101.length:Int) - 1)),(by first|rfl|(simp;done)|(simp [*];done)),H',⟨Nat.le_refl _⟩,⟨by (with_reducible repeat (first|apply Kd.Ql|apply Kd.Qm|apply Kd.N_drew));exact Kd.N_mono HO_5.out (fun _ hk=>(by simp [Value.ownBlock]))⟩,⟨by (with_reducible repeat (first|apply Kd.V_alloc|apply Kd.V_drewN|apply Kd.V_drew));exact Kd.V_mono HO_7.out (fun _ hk=>⟨hk,(by simp [Value.ownBlock])⟩)⟩,⟨by first|exact Kd.S_nil _ _ _ _ _|exact Kd.N_nil _ _ _ _ _|exact Kd.V_nil _ _ _ _ _|exact Kd.Q_nil _ _ _ _ _|exact Kd.R_nil _ _ _ _ _⟩,⟨by repeat (first|(with_reducible first|exact HB.out|apply Qc|apply Qa|apply Qb)|exact HB.out)⟩⟩
        case round=>
         clear H';(try clear c1);(try clear p2);(try clear c3);(try clear c3b0);(try clear c5);(try clear p6);(try clear c12);(try clear c12b0);(try clear c12b1);(try clear c12b2);(try clear c16);(try clear c18);(try clear p2);(try clear p6);obtain ⟨x11_2,x12_2,rfl,HA,HK2,HO_5,HO_7,HO_11,HB⟩:=hrel
         cases gk with
         |zero=>exact absurd HA.out (by simp [laws_FnTables.l0])
         |succ k2=>
          have H:=HA.out;clear HA;simp only [laws_FnTables.l0] at H;by_cases c19:x12_2 ≥ 0
          ·rw [if_pos c19] at H;have c19b0:decide (0≤x12_2)=true:=decide_eq_true c19;clear c19
           (first|rw [c19b0]|(simp only [i64_w,i32_w];rw [c19b0])|skip)
           by_cases c20:0≤x12_2
           ·rw [if_pos c20] at H;have c20b0:decide (0≤x12_2)=true:=decide_eq_true c20;clear c20;by_cases c21:x12_2<(t101.length:Int)
            ·rw [if_pos c21] at H;have c21b0:decide (x12_2<(t101.length:Int))=true:=decide_eq_true c21;clear c21;by_cases c22:x11_2.length<5864062014805
             ·rw [if_pos c22] at H;have LMc22:=aM c22;clear c22;obtain ⟨y115,hy115⟩:∃ y_:List (S53),y_=(x11_2 ++ [(⟨(rd_T53 t101 x12_2).f0⟩:S53)]):=⟨_,rfl⟩;replace H:(laws_FnTables.l0 k2 l1 t101 t102 t105 y115 (wrap64 (x12_2 - 1)))=some r:=by first|(rw [hy115];with_reducible exact H)|(have H2_:=(Option.bind_some _ _).symm.trans H;rw [hy115];with_reducible exact H2_)|(have H2_:=(Option.bind_some _ _).symm.trans H;with_reducible exact H2_)|with_reducible exact H|(rw [hy115];exact H)|exact H
              have Ny115:=aM hy115;clear hy115
              as_aux_lemma=>
               have H':=aM H;clear H;have p114:0≤(x12_2:Int):=of_decide_eq_true (by first|(with_reducible assumption)|assumption);have q114:x12_2<(t101.length:Int):=of_decide_eq_true (by first|(with_reducible assumption)|assumption);obtain ⟨ad114,A114_0,c114_0,e114,hx114_0,hl114_0,hi114_0⟩:=at_T53 (Kd.Qs HO_5.out).2.2 x12_2 p114 q114
               cases e114
               obtain ⟨ce114,hce114,hMe114,hcc114⟩:=Kd.N_get HO_5.out z53 x12_2 p114 (by first|exact q114|exact of_decide_eq_true (by first|(with_reducible assumption)|assumption)|(have e_:=(Kd.Qs HO_5.out).1;omega));obtain ⟨ua114_0,uc114_0,rfl,ul114_0,ge114_0⟩:=k53_openF hMe114;have hv114_0:=hcc114 0 _ rfl;rw [Nat.add_zero,show (k53).sz=1 from rfl,Nat.mul_one] at hv114_0;replace hv114_0:=Option.some.inj (hv114_0.symm.trans hx114_0)
               injection hv114_0 with hva_ hvn_ hvc_
               rw [hva_] at ge114_0;rw [hvc_] at ul114_0;have HL114_0:=aM (show Kd.V (Kd.int .i64) 3 _ w.heap.size _ _ ((rd_T53 t101 x12_2).f0) from Kd.V_mk ul114_0 ge114_0);clear hva_ hvn_ hvc_ ge114_0 ul114_0;clear hcc114 hce114;have HR114_0:=aM hi114_0;have HC114_0:=aM hl114_0;clear hi114_0 hl114_0;replace p114:=eq_true p114;replace q114:=eq_true q114;go_wp2_with (first|((with_reducible refine gate_builtin (b:= .append) (xs:=#[.tmp 69,.tmp 74]) rfl ?_);at_builtin;refine Kd.N_append k53 (w0:=w) w.heap.size rfl (.tmp 69) (.tmp 74) 48 53 (.agg #[(.slice none 0 0)]) 24 rfl Try.underlying48 info53 rfl (by decide) (by omega) u11 x11_2 (⟨(rd_T53 t101 x12_2).f0⟩:S53) [.slice A114_0 ((rd_T53 t101 x12_2).f0).length c114_0] (fun k_=>some k_≠(.slice (some ad114) t101.length co9:Value).ownBlock) (fun k_=>((fun k_=>some k_≠(.slice (some ad114) t101.length co9:Value).ownBlock)) k_∧some k_≠(u11:Value).ownBlock) rfl rfl ?aP (fun _ hk=>hk) ?aF ?aO ?aB ?aS ?aL ?_;(case aP=>exact (k53_mkF _ _ (⟨(rd_T53 t101 x12_2).f0⟩:S53) (Kd.Qo (Kd.V_mono (ok':=(fun k_=>((fun k_=>some k_≠(.slice (some ad114) t101.length co9:Value).ownBlock)) k_∧some k_≠(u11:Value).ownBlock)) (HL114_0.out) (fun k_ hk=>⟨hk.2,hk.1⟩))).2.1 (Kd.V_F (Kd.V_mono (ok':=(fun k_=>((fun k_=>some k_≠(.slice (some ad114) t101.length co9:Value).ownBlock)) k_∧some k_≠(u11:Value).ownBlock)) (HL114_0.out) (fun k_ hk=>⟨hk.2,hk.1⟩)))));(case aB=>exact (by repeat (first|(with_reducible first|exact HB.out|apply Qc|apply Qa|apply Qb)|exact HB.out)));(case aF=>exact (fun k_ hk=>Kd.fresh' (Kd.N_lt (by (with_reducible repeat (first|apply Kd.Ql|apply Kd.Qm|apply Kd.N_drew));exact HO_5.out)) k_ hk));(case aO=>exact (by (with_reducible repeat (first|apply Kd.Ql|apply Kd.Qm|apply Kd.N_drew));exact HO_11.out));(case aS=>exact (Qh (by repeat (first|(with_reducible first|exact HB.out|apply Qc|apply Qa|apply Qb)|exact HB.out))));(case aL=>have:=LMc22.out;omega);intro v116 w23 ho hb hg hat;rw [←Ny115.out] at ho;have n0_:=aM (Kd.N_afterv (ok:=(fun _=>True)) (by (with_reducible repeat (first|apply Kd.Ql|apply Kd.Qm|apply Kd.N_drew));exact Kd.N_mono HO_5.out (fun _ hk=>⟨trivial,hk⟩)) hg hat);have n1_:=aM (Kd.V_afterv (ok:=(fun k_=>some k_≠(.slice (some ad114) t101.length co9:Value).ownBlock)) (by (with_reducible repeat (first|apply Kd.V_alloc|apply Kd.V_drewN|apply Kd.V_drew));exact HO_7.out) hg hat);have n2_:=aM (Kd.V_afterv (ok:=(fun k_=>some k_≠(.slice (some ad114) t101.length co9:Value).ownBlock)) (by (with_reducible repeat (first|apply Kd.V_alloc|apply Kd.V_drewN|apply Kd.V_drew));exact Kd.V_mono HL114_0.out (fun _ hk=>⟨hk.2,hk.1⟩)) hg hat);have n3_:=aM (hb);have n4_:=aM (ho);clear HO_5;clear HO_7;clear HL114_0;clear HB;clear HO_11;have HO_5:=n0_;have HO_7:=n1_;have HL114_0:=n2_;have HB:=n3_;have HO117:=n4_;clear n0_ n1_ n2_ n3_ n4_;clear ho hb hg hat))
               repeat (go_quiet (first|((with_reducible refine gate_builtin (b:= .append) (xs:=#[.tmp 69,.tmp 74]) rfl ?_);at_builtin;refine Kd.N_append k53 (w0:=w) w.heap.size rfl (.tmp 69) (.tmp 74) 48 53 (.agg #[(.slice none 0 0)]) 24 rfl Try.underlying48 info53 rfl (by decide) (by omega) u11 x11_2 (⟨(rd_T53 t101 x12_2).f0⟩:S53) [.slice A114_0 ((rd_T53 t101 x12_2).f0).length c114_0] (fun k_=>some k_≠(.slice (some ad114) t101.length co9:Value).ownBlock) (fun k_=>((fun k_=>some k_≠(.slice (some ad114) t101.length co9:Value).ownBlock)) k_∧some k_≠(u11:Value).ownBlock) rfl rfl ?aP (fun _ hk=>hk) ?aF ?aO ?aB ?aS ?aL ?_;(case aP=>exact (k53_mkF _ _ (⟨(rd_T53 t101 x12_2).f0⟩:S53) (Kd.Qo (Kd.V_mono (ok':=(fun k_=>((fun k_=>some k_≠(.slice (some ad114) t101.length co9:Value).ownBlock)) k_∧some k_≠(u11:Value).ownBlock)) (HL114_0.out) (fun k_ hk=>⟨hk.2,hk.1⟩))).2.1 (Kd.V_F (Kd.V_mono (ok':=(fun k_=>((fun k_=>some k_≠(.slice (some ad114) t101.length co9:Value).ownBlock)) k_∧some k_≠(u11:Value).ownBlock)) (HL114_0.out) (fun k_ hk=>⟨hk.2,hk.1⟩)))));(case aB=>exact (by repeat (first|(with_reducible first|exact HB.out|apply Qc|apply Qa|apply Qb)|exact HB.out)));(case aF=>exact (fun k_ hk=>Kd.fresh' (Kd.N_lt (by (with_reducible repeat (first|apply Kd.Ql|apply Kd.Qm|apply Kd.N_drew));exact HO_5.out)) k_ hk));(case aO=>exact (by (with_reducible repeat (first|apply Kd.Ql|apply Kd.Qm|apply Kd.N_drew));exact HO_11.out));(case aS=>exact (Qh (by repeat (first|(with_reducible first|exact HB.out|apply Qc|apply Qa|apply Qb)|exact HB.out))));(case aL=>have:=LMc22.out;omega);intro v116 w23 ho hb hg hat;rw [←Ny115.out] at ho;have n0_:=aM (Kd.N_afterv (ok:=(fun _=>True)) (by (with_reducible repeat (first|apply Kd.Ql|apply Kd.Qm|apply Kd.N_drew));exact Kd.N_mono HO_5.out (fun _ hk=>⟨trivial,hk⟩)) hg hat);have n1_:=aM (Kd.V_afterv (ok:=(fun k_=>some k_≠(.slice (some ad114) t101.length co9:Value).ownBlock)) (by (with_reducible repeat (first|apply Kd.V_alloc|apply Kd.V_drewN|apply Kd.V_drew));exact HO_7.out) hg hat);have n2_:=aM (Kd.V_afterv (ok:=(fun k_=>some k_≠(.slice (some ad114) t101.length co9:Value).ownBlock)) (by (with_reducible repeat (first|apply Kd.V_alloc|apply Kd.V_drewN|apply Kd.V_drew));exact Kd.V_mono HL114_0.out (fun _ hk=>⟨hk.2,hk.1⟩)) hg hat);have n3_:=aM (hb);have n4_:=aM (ho);clear HO_5;clear HO_7;clear HL114_0;clear HB;clear HO_11;have HO_5:=n0_;have HO_7:=n1_;have HL114_0:=n2_;have HB:=n3_;have HO117:=n4_;clear n0_ n1_ n2_ n3_ n4_;clear ho hb hg hat));try go_wp2_with (first|((with_reducible refine gate_builtin (b:= .append) (xs:=#[.tmp 69,.tmp 74]) rfl ?_);at_builtin;refine Kd.N_append k53 (w0:=w) w.heap.size rfl (.tmp 69) (.tmp 74) 48 53 (.agg #[(.slice none 0 0)]) 24 rfl Try.underlying48 info53 rfl (by decide) (by omega) u11 x11_2 (⟨(rd_T53 t101 x12_2).f0⟩:S53) [.slice A114_0 ((rd_T53 t101 x12_2).f0).length c114_0] (fun k_=>some k_≠(.slice (some ad114) t101.length co9:Value).ownBlock) (fun k_=>((fun k_=>some k_≠(.slice (some ad114) t101.length co9:Value).ownBlock)) k_∧some k_≠(u11:Value).ownBlock) rfl rfl ?aP (fun _ hk=>hk) ?aF ?aO ?aB ?aS ?aL ?_;(case aP=>exact (k53_mkF _ _ (⟨(rd_T53 t101 x12_2).f0⟩:S53) (Kd.Qo (Kd.V_mono (ok':=(fun k_=>((fun k_=>some k_≠(.slice (some ad114) t101.length co9:Value).ownBlock)) k_∧some k_≠(u11:Value).ownBlock)) (HL114_0.out) (fun k_ hk=>⟨hk.2,hk.1⟩))).2.1 (Kd.V_F (Kd.V_mono (ok':=(fun k_=>((fun k_=>some k_≠(.slice (some ad114) t101.length co9:Value).ownBlock)) k_∧some k_≠(u11:Value).ownBlock)) (HL114_0.out) (fun k_ hk=>⟨hk.2,hk.1⟩)))));(case aB=>exact (by repeat (first|(with_reducible first|exact HB.out|apply Qc|apply Qa|apply Qb)|exact HB.out)));(case aF=>exact (fun k_ hk=>Kd.fresh' (Kd.N_lt (by (with_reducible repeat (first|apply Kd.Ql|apply Kd.Qm|apply Kd.N_drew));exact HO_5.out)) k_ hk));(case aO=>exact (by (with_reducible repeat (first|apply Kd.Ql|apply Kd.Qm|apply Kd.N_drew));exact HO_11.out));(case aS=>exact (Qh (by repeat (first|(with_reducible first|exact HB.out|apply Qc|apply Qa|apply Qb)|exact HB.out))));(case aL=>have:=LMc22.out;omega);intro v116 w23 ho hb hg hat;rw [←Ny115.out] at ho;have n0_:=aM (Kd.N_afterv (ok:=(fun _=>True)) (by (with_reducible repeat (first|apply Kd.Ql|apply Kd.Qm|apply Kd.N_drew));exact Kd.N_mono HO_5.out (fun _ hk=>⟨trivial,hk⟩)) hg hat);have n1_:=aM (Kd.V_afterv (ok:=(fun k_=>some k_≠(.slice (some ad114) t101.length co9:Value).ownBlock)) (by (with_reducible repeat (first|apply Kd.V_alloc|apply Kd.V_drewN|apply Kd.V_drew));exact HO_7.out) hg hat);have n2_:=aM (Kd.V_afterv (ok:=(fun k_=>some k_≠(.slice (some ad114) t101.length co9:Value).ownBlock)) (by (with_reducible repeat (first|apply Kd.V_alloc|apply Kd.V_drewN|apply Kd.V_drew));exact Kd.V_mono HL114_0.out (fun _ hk=>⟨hk.2,hk.1⟩)) hg hat);have n3_:=aM (hb);have n4_:=aM (ho);clear HO_5;clear HO_7;clear HL114_0;clear HB;clear HO_11;have HO_5:=n0_;have HO_7:=n1_;have HL114_0:=n2_;have HB:=n3_;have HO117:=n4_;clear n0_ n1_ n2_ n3_ n4_;clear ho hb hg hat)))
               go_roundg k2
               case measure=>have:=HJ6.out;have:=HK2.out;omega
               case rel=>exact ⟨(y115),(wrap64 (x12_2 - 1)),(by first|rfl|(simp;done)|(simp [*];done)),H',⟨by have:=HJ6.out;have:=HK2.out;omega⟩,⟨by (with_reducible repeat (first|apply Kd.Ql|apply Kd.Qm|apply Kd.N_drew));exact Kd.N_mono HO_5.out (fun _ hk=>hk.2)⟩,⟨by (with_reducible repeat (first|apply Kd.V_alloc|apply Kd.V_drewN|apply Kd.V_drew));exact HO_7.out⟩,⟨by (with_reducible repeat (first|apply Kd.Ql|apply Kd.Qm|apply Kd.N_drew));exact HO117.out⟩,⟨by repeat (first|(with_reducible first|exact HB.out|apply Qc|apply Qa|apply Qb)|exact HB.out)⟩⟩
             ·rw [if_neg c22] at H;exact absurd H (by simp)
            ·rw [if_neg c21] at H;exact absurd H (by simp)
           ·rw [if_neg c20] at H;exact absurd H (by simp)
          ·rw [if_neg c19] at H;have c19b0:decide (0≤x12_2)=false:=decide_eq_false c19;clear c19
           (first|rw [c19b0]|(simp only [i64_w,i32_w];rw [c19b0])|skip)
           replace H:=Option.bind_eq_some_iff.mp H;obtain ⟨⟨t118,t121⟩,A240,H⟩:=H;replace H:((impl_BestChoice.f k2 t101 t102).bind fun bt122=>(if (t105.length:Int)=(wrap64 (t102+1)) then (if 0<(t105.length:Int) then (if (rd t105 0)=0 then (if t121=true then ((laws_sameInts.f k2 t118 t105).bind fun t128=>(if t128=true then (if bt122.2.2=true then (if 0≤t102 then (if t102<(t105.length:Int) then (laws_FnTables.j2 k2 l1 t105 (bt122.2.1 != (rd t105 t102))) else (none)) else (none)) else (laws_FnTables.j2 k2 l1 t105 true)) else (laws_FnTables.j2 k2 l1 t105 true))) else (laws_FnTables.j2 k2 l1 t105 true)) else (laws_FnTables.j2 k2 l1 t105 true)) else (none)) else (laws_FnTables.j2 k2 l1 t105 true)))=some r:=H;have A24:=aM A240;clear A240;replace H:=Option.bind_eq_some_iff.mp H;obtain ⟨⟨t122,t123,t124⟩,A250,H⟩:=H;replace H:(if (t105.length:Int)=(wrap64 (t102+1)) then (if 0<(t105.length:Int) then (if (rd t105 0)=0 then (if t121=true then ((laws_sameInts.f k2 t118 t105).bind fun t128=>(if t128=true then (if t124=true then (if 0≤t102 then (if t102<(t105.length:Int) then (laws_FnTables.j2 k2 l1 t105 (t123 != (rd t105 t102))) else (none)) else (none)) else (laws_FnTables.j2 k2 l1 t105 true)) else (laws_FnTables.j2 k2 l1 t105 true))) else (laws_FnTables.j2 k2 l1 t105 true)) else (laws_FnTables.j2 k2 l1 t105 true)) else (none)) else (laws_FnTables.j2 k2 l1 t105 true))=some r:=H;have A25:=aM A250;clear A250;have HC26:=aM H;clear H;obtain ⟨Ao27,co27,eo27⟩:=Kd.N_slice HO_11.out;subst eo27
           go_upto_region 16 with (first|(go_at_call 38;(with_reducible refine (impl_BestTable.calls k2 _ _ x11_2 t102 t118 t121 _ ?side1 ?side2 A24.out).mono ?_);(case side1=>repeat (first|exact (Kd.Qs HO_11.out).2.2|(with_reducible refine Kd.Qj ?_ _)|(with_reducible refine Kd.Qk ?_ _)|(with_reducible refine Kd.C_drew ?_)));(case side2=>exact (Kd.Qs HO_11.out).2.1);rintro e w28 ⟨v119,rfl,ho0,hb⟩;have n0_:=aM (Kd.N_below (by (with_reducible repeat (first|apply Kd.Ql|apply Kd.Qm|apply Kd.N_drew));exact HO_5.out) hb);have n1_:=aM (Kd.V_below (by (with_reducible repeat (first|apply Kd.V_alloc|apply Kd.V_drewN|apply Kd.V_drew));exact HO_7.out) hb);have n2_:=aM (Kd.N_below (by (with_reducible repeat (first|apply Kd.Ql|apply Kd.Qm|apply Kd.N_drew));exact HO_11.out) hb);have n3_:=aM (Kd.V_lower (Kd.V_mono (ok':=fun k_=>some k_≠(.slice Ao9 t101.length co9:Value).ownBlock∧some k_≠(.slice Ao27 x11_2.length co27:Value).ownBlock) ho0 (fun k_ hk_=>⟨(Kd.fresh' (Kd.N_lt (by (with_reducible repeat (first|apply Kd.Ql|apply Kd.Qm|apply Kd.N_drew));exact HO_5.out)) k_ hk_),(Kd.fresh' (Kd.N_lt (by (with_reducible repeat (first|apply Kd.Ql|apply Kd.Qm|apply Kd.N_drew));exact HO_11.out)) k_ hk_)⟩)) (Qh (by repeat (first|(with_reducible first|exact HB.out|apply Qc|apply Qa|apply Qb)|exact HB.out))));have n4_:=aM (Qi (by repeat (first|(with_reducible first|exact HB.out|apply Qc|apply Qa|apply Qb)|exact HB.out)) hb);clear HO_5;clear HO_7;clear HO_11;clear HB;have HO_5:=n0_;have HO_7:=n1_;have HO_11:=n2_;have HO120:=n3_;have HB:=n4_;clear n0_ n1_ n2_ n3_ n4_;(try clear hb);(try clear hb2);(try clear hk);(try clear hi);(try clear ho0))|(go_at_call 40;(with_reducible refine (impl_BestChoice.calls k2 _ _ t101 t102 t122 t123 t124 _ ?side1 ?side2 A25.out).mono ?_);(case side1=>repeat (first|exact (Kd.Qs HO_5.out).2.2|(with_reducible refine Kd.Qj ?_ _)|(with_reducible refine Kd.Qk ?_ _)|(with_reducible refine Kd.C_drew ?_)));(case side2=>exact (Kd.Qs HO_5.out).2.1);rintro e w29 ⟨v125,rfl,ho0,hb⟩;have n0_:=aM (Kd.N_elder' (by (with_reducible repeat (first|apply Kd.Ql|apply Kd.Qm|apply Kd.N_drew));exact HO_5.out) (Kd.R_base ho0) hb);have n1_:=aM (Kd.V_elder' (by (with_reducible repeat (first|apply Kd.V_alloc|apply Kd.V_drewN|apply Kd.V_drew));exact HO_7.out) (Kd.R_base ho0) hb);have n2_:=aM (Kd.N_elder' (by (with_reducible repeat (first|apply Kd.Ql|apply Kd.Qm|apply Kd.N_drew));exact HO_11.out) (Kd.R_base ho0) hb);have n3_:=aM (Kd.V_elder' (by (with_reducible repeat (first|apply Kd.V_alloc|apply Kd.V_drewN|apply Kd.V_drew));exact HO120.out) (Kd.R_base ho0) hb);have n4_:=aM (Kd.R_lower ho0 (Qh (by repeat (first|(with_reducible first|exact HB.out|apply Qc|apply Qa|apply Qb)|exact HB.out))));have n5_:=aM (Qi (by repeat (first|(with_reducible first|exact HB.out|apply Qc|apply Qa|apply Qb)|exact HB.out)) hb);clear HO_5;clear HO_7;clear HO_11;clear HO120;clear HB;have HO_5:=n0_;have HO_7:=n1_;have HO_11:=n2_;have HO120:=n3_;have HO126:=n4_;have HB:=n5_;clear n0_ n1_ n2_ n3_ n4_ n5_;(try clear hb);(try clear hb2);(try clear hk);(try clear hi);(try clear ho0)))
           repeat (go_quiet (first|(go_at_call 38;(with_reducible refine (impl_BestTable.calls k2 _ _ x11_2 t102 t118 t121 _ ?side1 ?side2 A24.out).mono ?_);(case side1=>repeat (first|exact (Kd.Qs HO_11.out).2.2|(with_reducible refine Kd.Qj ?_ _)|(with_reducible refine Kd.Qk ?_ _)|(with_reducible refine Kd.C_drew ?_)));(case side2=>exact (Kd.Qs HO_11.out).2.1);rintro e w28 ⟨v119,rfl,ho0,hb⟩;have n0_:=aM (Kd.N_below (by (with_reducible repeat (first|apply Kd.Ql|apply Kd.Qm|apply Kd.N_drew));exact HO_5.out) hb);have n1_:=aM (Kd.V_below (by (with_reducible repeat (first|apply Kd.V_alloc|apply Kd.V_drewN|apply Kd.V_drew));exact HO_7.out) hb);have n2_:=aM (Kd.N_below (by (with_reducible repeat (first|apply Kd.Ql|apply Kd.Qm|apply Kd.N_drew));exact HO_11.out) hb);have n3_:=aM (Kd.V_lower (Kd.V_mono (ok':=fun k_=>some k_≠(.slice Ao9 t101.length co9:Value).ownBlock∧some k_≠(.slice Ao27 x11_2.length co27:Value).ownBlock) ho0 (fun k_ hk_=>⟨(Kd.fresh' (Kd.N_lt (by (with_reducible repeat (first|apply Kd.Ql|apply Kd.Qm|apply Kd.N_drew));exact HO_5.out)) k_ hk_),(Kd.fresh' (Kd.N_lt (by (with_reducible repeat (first|apply Kd.Ql|apply Kd.Qm|apply Kd.N_drew));exact HO_11.out)) k_ hk_)⟩)) (Qh (by repeat (first|(with_reducible first|exact HB.out|apply Qc|apply Qa|apply Qb)|exact HB.out))));have n4_:=aM (Qi (by repeat (first|(with_reducible first|exact HB.out|apply Qc|apply Qa|apply Qb)|exact HB.out)) hb);clear HO_5;clear HO_7;clear HO_11;clear HB;have HO_5:=n0_;have HO_7:=n1_;have HO_11:=n2_;have HO120:=n3_;have HB:=n4_;clear n0_ n1_ n2_ n3_ n4_;(try clear hb);(try clear hb2);(try clear hk);(try clear hi);(try clear ho0))|(go_at_call 40;(with_reducible refine (impl_BestChoice.calls k2 _ _ t101 t102 t122 t123 t124 _ ?side1 ?side2 A25.out).mono ?_);(case side1=>repeat (first|exact (Kd.Qs HO_5.out).2.2|(with_reducible refine Kd.Qj ?_ _)|(with_reducible refine Kd.Qk ?_ _)|(with_reducible refine Kd.C_drew ?_)));(case side2=>exact (Kd.Qs HO_5.out).2.1);rintro e w29 ⟨v125,rfl,ho0,hb⟩;have n0_:=aM (Kd.N_elder' (by (with_reducible repeat (first|apply Kd.Ql|apply Kd.Qm|apply Kd.N_drew));exact HO_5.out) (Kd.R_base ho0) hb);have n1_:=aM (Kd.V_elder' (by (with_reducible repeat (first|apply Kd.V_alloc|apply Kd.V_drewN|apply Kd.V_drew));exact HO_7.out) (Kd.R_base ho0) hb);have n2_:=aM (Kd.N_elder' (by (with_reducible repeat (first|apply Kd.Ql|apply Kd.Qm|apply Kd.N_drew));exact HO_11.out) (Kd.R_base ho0) hb);have n3_:=aM (Kd.V_elder' (by (with_reducible repeat (first|apply Kd.V_alloc|apply Kd.V_drewN|apply Kd.V_drew));exact HO120.out) (Kd.R_base ho0) hb);have n4_:=aM (Kd.R_lower ho0 (Qh (by repeat (first|(with_reducible first|exact HB.out|apply Qc|apply Qa|apply Qb)|exact HB.out))));have n5_:=aM (Qi (by repeat (first|(with_reducible first|exact HB.out|apply Qc|apply Qa|apply Qb)|exact HB.out)) hb);clear HO_5;clear HO_7;clear HO_11;clear HO120;clear HB;have HO_5:=n0_;have HO_7:=n1_;have HO_11:=n2_;have HO120:=n3_;have HO126:=n4_;have HB:=n5_;clear n0_ n1_ n2_ n3_ n4_ n5_;(try clear hb);(try clear hb2);(try clear hk);(try clear hi);(try clear ho0)));go_upto_region 16 with (first|(go_at_call 38;(with_reducible refine (impl_BestTable.calls k2 _ _ x11_2 t102 t118 t121 _ ?side1 ?side2 A24.out).mono ?_);(case side1=>repeat (first|exact (Kd.Qs HO_11.out).2.2|(with_reducible refine Kd.Qj ?_ _)|(with_reducible refine Kd.Qk ?_ _)|(with_reducible refine Kd.C_drew ?_)));(case side2=>exact (Kd.Qs HO_11.out).2.1);rintro e w28 ⟨v119,rfl,ho0,hb⟩;have n0_:=aM (Kd.N_below (by (with_reducible repeat (first|apply Kd.Ql|apply Kd.Qm|apply Kd.N_drew));exact HO_5.out) hb);have n1_:=aM (Kd.V_below (by (with_reducible repeat (first|apply Kd.V_alloc|apply Kd.V_drewN|apply Kd.V_drew));exact HO_7.out) hb);have n2_:=aM (Kd.N_below (by (with_reducible repeat (first|apply Kd.Ql|apply Kd.Qm|apply Kd.N_drew));exact HO_11.out) hb);have n3_:=aM (Kd.V_lower (Kd.V_mono (ok':=fun k_=>some k_≠(.slice Ao9 t101.length co9:Value).ownBlock∧some k_≠(.slice Ao27 x11_2.length co27:Value).ownBlock) ho0 (fun k_ hk_=>⟨(Kd.fresh' (Kd.N_lt (by (with_reducible repeat (first|apply Kd.Ql|apply Kd.Qm|apply Kd.N_drew));exact HO_5.out)) k_ hk_),(Kd.fresh' (Kd.N_lt (by (with_reducible repeat (first|apply Kd.Ql|apply Kd.Qm|apply Kd.N_drew));exact HO_11.out)) k_ hk_)⟩)) (Qh (by repeat (first|(with_reducible first|exact HB.out|apply Qc|apply Qa|apply Qb)|exact HB.out))));have n4_:=aM (Qi (by repeat (first|(with_reducible first|exact HB.out|apply Qc|apply Qa|apply Qb)|exact HB.out)) hb);clear HO_5;clear HO_7;clear HO_11;clear HB;have HO_5:=n0_;have HO_7:=n1_;have HO_11:=n2_;have HO120:=n3_;have HB:=n4_;clear n0_ n1_ n2_ n3_ n4_;(try clear hb);(try clear hb2);(try clear hk);(try clear hi);(try clear ho0))|(go_at_call 40;(with_reducible refine (impl_BestChoice.calls k2 _ _ t101 t102 t122 t123 t124 _ ?side1 ?side2 A25.out).mono ?_);(case side1=>repeat (first|exact (Kd.Qs HO_5.out).2.2|(with_reducible refine Kd.Qj ?_ _)|(with_reducible refine Kd.Qk ?_ _)|(with_reducible refine Kd.C_drew ?_)));(case side2=>exact (Kd.Qs HO_5.out).2.1);rintro e w29 ⟨v125,rfl,ho0,hb⟩;have n0_:=aM (Kd.N_elder' (by (with_reducible repeat (first|apply Kd.Ql|apply Kd.Qm|apply Kd.N_drew));exact HO_5.out) (Kd.R_base ho0) hb);have n1_:=aM (Kd.V_elder' (by (with_reducible repeat (first|apply Kd.V_alloc|apply Kd.V_drewN|apply Kd.V_drew));exact HO_7.out) (Kd.R_base ho0) hb);have n2_:=aM (Kd.N_elder' (by (with_reducible repeat (first|apply Kd.Ql|apply Kd.Qm|apply Kd.N_drew));exact HO_11.out) (Kd.R_base ho0) hb);have n3_:=aM (Kd.V_elder' (by (with_reducible repeat (first|apply Kd.V_alloc|apply Kd.V_drewN|apply Kd.V_drew));exact HO120.out) (Kd.R_base ho0) hb);have n4_:=aM (Kd.R_lower ho0 (Qh (by repeat (first|(with_reducible first|exact HB.out|apply Qc|apply Qa|apply Qb)|exact HB.out))));have n5_:=aM (Qi (by repeat (first|(with_reducible first|exact HB.out|apply Qc|apply Qa|apply Qb)|exact HB.out)) hb);clear HO_5;clear HO_7;clear HO_11;clear HO120;clear HB;have HO_5:=n0_;have HO_7:=n1_;have HO_11:=n2_;have HO120:=n3_;have HO126:=n4_;have HB:=n5_;clear n0_ n1_ n2_ n3_ n4_ n5_;(try clear hb);(try clear hb2);(try clear hk);(try clear hi);(try clear ho0))))
           (try simp only [Act.put,aA,aB,aC])
           go_cut [121] (fun v121 wc=>∃ (kq:Nat) (x121_25:Bool),v121= .bool x121_25∧Aside0 (laws_FnTables.j2 kq l1 t105 x121_25=some r)∧Aside0 (kq≤k2)∧Aside0 (Kd.V (Kd.int .i64) 3 wc w.heap.size (fun _=>True) v106 t105)∧Aside0 (Below w.heap.size w wc))
           case first=>
            have H:=HC26.out;clear HC26;by_cases c30:(t105.length:Int)=(wrap64 (t102+1))
            ·rw [if_pos c30] at H;have c30b0:((t105.length:Int) == (wrap64 (t102+1)))=true:=beq_iff_eq.mpr c30;have c30b1:((t105.length:Int) != (wrap64 (t102+1)))=false:=bne_eq_false_iff_eq.mpr c30;clear c30
             (first|rw [c30b0]|(simp only [i64_w,i32_w];rw [c30b0])|skip)
             by_cases c31:0<(t105.length:Int)
             ·rw [if_pos c31] at H;have c31b0:decide (0<(t105.length:Int))=true:=decide_eq_true c31;have c31b1:decide (0<t105.length)=true:=decide_eq_true (by omega);clear c31;by_cases c32:(rd t105 0)=0
              ·rw [if_pos c32] at H;have c32b0:((rd t105 0) == 0)=true:=beq_iff_eq.mpr c32;have c32b1:((rd t105 0) != 0)=false:=bne_eq_false_iff_eq.mpr c32;clear c32;by_cases c33:t121=true
               ·subst c33;have H1:((laws_sameInts.f k2 t118 t105).bind fun t128=>(if t128=true then (if t124=true then (if 0≤t102 then (if t102<(t105.length:Int) then (laws_FnTables.j2 k2 l1 t105 (t123 != (rd t105 t102))) else (none)) else (none)) else (laws_FnTables.j2 k2 l1 t105 true)) else (laws_FnTables.j2 k2 l1 t105 true)))=some r:=by rw [if_pos rfl] at H;exact H
                clear H;have H:=H1;clear H1;replace H:=Option.bind_eq_some_iff.mp H;obtain ⟨t128,A340,H⟩:=H;replace H:(if t128=true then (if t124=true then (if 0≤t102 then (if t102<(t105.length:Int) then (laws_FnTables.j2 k2 l1 t105 (t123 != (rd t105 t102))) else (none)) else (none)) else (laws_FnTables.j2 k2 l1 t105 true)) else (laws_FnTables.j2 k2 l1 t105 true))=some r:=H;have A34:=aM A340;clear A340;by_cases c35:t128=true
                ·subst c35;have H1:(if t124=true then (if 0≤t102 then (if t102<(t105.length:Int) then (laws_FnTables.j2 k2 l1 t105 (t123 != (rd t105 t102))) else (none)) else (none)) else (laws_FnTables.j2 k2 l1 t105 true))=some r:=by rw [if_pos rfl] at H;exact H
                 clear H;have H:=H1;clear H1;by_cases c36:t124=true
                 ·subst c36;have H1:(if 0≤t102 then (if t102<(t105.length:Int) then (laws_FnTables.j2 k2 l1 t105 (t123 != (rd t105 t102))) else (none)) else (none))=some r:=by rw [if_pos rfl] at H;exact H
                  clear H;have H:=H1;clear H1;by_cases c37:0≤t102
                  ·rw [if_pos c37] at H;have c37b0:decide (0≤t102)=true:=decide_eq_true c37;clear c37;by_cases c38:t102<(t105.length:Int)
                   ·rw [if_pos c38] at H;have c38b0:decide (t102<(t105.length:Int))=true:=decide_eq_true c38;clear c38
                    as_aux_lemma=>
                     have H':=aM H;clear H;obtain ⟨Ao39,co39,eo39⟩:=Kd.V_slice HO_7.out;subst eo39;have p127:0≤(0:Int):=(by omega);have q127:0<(t105.length:Int):=of_decide_eq_true (by first|(with_reducible assumption)|assumption);obtain ⟨ad127,e127,hx127_0⟩:=Kd.at_int (Kd.Qo HO_7.out).2.2 0 p127 q127
                     cases e127
                     have qi127:(0<t105.length)=True:=eq_true (by omega);(try rw [show ((0:Int)).toNat=0 from rfl] at hx127_0);(try rw [Addr.add_zero'] at hx127_0);replace p127:=eq_true p127;replace q127:=eq_true q127;obtain ⟨Ao40,co40,eo40⟩:=Kd.V_slice HO120.out;subst eo40;go_wp2_with (first|(go_at_call 20;(with_reducible refine (laws_sameInts.calls k2 _ _ t118 _ _ t105 true _ ?side1 ?side2 ?side3 ?side4 A34.out).mono ?_);(case side1=>repeat (first|exact (Kd.Qo HO120.out).2.2|(with_reducible refine Kd.Qj ?_ _)|(with_reducible refine Kd.Qk ?_ _)|(with_reducible refine Kd.C_drew ?_)));(case side2=>exact (Kd.Qo HO120.out).2.1);(case side3=>repeat (first|exact (Kd.Qo HO_7.out).2.2|(with_reducible refine Kd.Qj ?_ _)|(with_reducible refine Kd.Qk ?_ _)|(with_reducible refine Kd.C_drew ?_)));(case side4=>exact (Kd.Qo HO_7.out).2.1);rintro e w' ⟨rfl,⟨nd,rfl⟩⟩;(try first|exact ⟨rfl,_,World.drewN_drewN _ _ _⟩|exact ⟨rfl,_,Eq.trans (World.drewN_drewN _ _ _) (congrArg (World.drewN _) (Nat.add_assoc _ _ _))⟩);have p129:0≤(t102:Int):=of_decide_eq_true (by first|(with_reducible assumption)|assumption);have q129:t102<(t105.length:Int):=of_decide_eq_true (by first|(with_reducible assumption)|assumption);obtain ⟨ad129,e129,hx129_0⟩:=Kd.at_int (Kd.Qo HO_7.out).2.2 t102 p129 q129;obtain rfl:ad127=ad129:=(by injection e129);replace p129:=eq_true p129;replace q129:=eq_true q129))
                     repeat (go_quiet (first|(go_at_call 20;(with_reducible refine (laws_sameInts.calls k2 _ _ t118 _ _ t105 true _ ?side1 ?side2 ?side3 ?side4 A34.out).mono ?_);(case side1=>repeat (first|exact (Kd.Qo HO120.out).2.2|(with_reducible refine Kd.Qj ?_ _)|(with_reducible refine Kd.Qk ?_ _)|(with_reducible refine Kd.C_drew ?_)));(case side2=>exact (Kd.Qo HO120.out).2.1);(case side3=>repeat (first|exact (Kd.Qo HO_7.out).2.2|(with_reducible refine Kd.Qj ?_ _)|(with_reducible refine Kd.Qk ?_ _)|(with_reducible refine Kd.C_drew ?_)));(case side4=>exact (Kd.Qo HO_7.out).2.1);rintro e w' ⟨rfl,⟨nd,rfl⟩⟩;(try first|exact ⟨rfl,_,World.drewN_drewN _ _ _⟩|exact ⟨rfl,_,Eq.trans (World.drewN_drewN _ _ _) (congrArg (World.drewN _) (Nat.add_assoc _ _ _))⟩);have p129:0≤(t102:Int):=of_decide_eq_true (by first|(with_reducible assumption)|assumption);have q129:t102<(t105.length:Int):=of_decide_eq_true (by first|(with_reducible assumption)|assumption);obtain ⟨ad129,e129,hx129_0⟩:=Kd.at_int (Kd.Qo HO_7.out).2.2 t102 p129 q129;obtain rfl:ad127=ad129:=(by injection e129);replace p129:=eq_true p129;replace q129:=eq_true q129));try go_wp2_with (first|(go_at_call 20;(with_reducible refine (laws_sameInts.calls k2 _ _ t118 _ _ t105 true _ ?side1 ?side2 ?side3 ?side4 A34.out).mono ?_);(case side1=>repeat (first|exact (Kd.Qo HO120.out).2.2|(with_reducible refine Kd.Qj ?_ _)|(with_reducible refine Kd.Qk ?_ _)|(with_reducible refine Kd.C_drew ?_)));(case side2=>exact (Kd.Qo HO120.out).2.1);(case side3=>repeat (first|exact (Kd.Qo HO_7.out).2.2|(with_reducible refine Kd.Qj ?_ _)|(with_reducible refine Kd.Qk ?_ _)|(with_reducible refine Kd.C_drew ?_)));(case side4=>exact (Kd.Qo HO_7.out).2.1);rintro e w' ⟨rfl,⟨nd,rfl⟩⟩;(try first|exact ⟨rfl,_,World.drewN_drewN _ _ _⟩|exact ⟨rfl,_,Eq.trans (World.drewN_drewN _ _ _) (congrArg (World.drewN _) (Nat.add_assoc _ _ _))⟩);have p129:0≤(t102:Int):=of_decide_eq_true (by first|(with_reducible assumption)|assumption);have q129:t102<(t105.length:Int):=of_decide_eq_true (by first|(with_reducible assumption)|assumption);obtain ⟨ad129,e129,hx129_0⟩:=Kd.at_int (Kd.Qo HO_7.out).2.2 t102 p129 q129;obtain rfl:ad127=ad129:=(by injection e129);replace p129:=eq_true p129;replace q129:=eq_true q129)))
                     go_meet
                     case rel=>exact ⟨_,((t123 != (rd t105 t102))),(by first|rfl|(simp;done)|(simp [*];done)),H',⟨by have:=HJ6.out;have:=HK2.out;first|omega|exact Nat.le_refl _⟩,⟨by (with_reducible repeat (first|apply Kd.V_alloc|apply Kd.V_drewN|apply Kd.V_drew));exact Kd.V_mono HO_7.out (fun _ hk=>trivial)⟩,⟨by repeat (first|(with_reducible first|exact HB.out|apply Qc|apply Qa|apply Qb)|exact HB.out)⟩⟩
                   ·rw [if_neg c38] at H;exact absurd H (by simp)
                  ·rw [if_neg c37] at H;exact absurd H (by simp)
                 ·replace c36:=Bool.eq_false_iff.mpr c36;subst c36;have H1:(laws_FnTables.j2 k2 l1 t105 true)=some r:=by rw [if_neg (show ¬ (false=true) by decide)] at H;exact H
                  clear H;have H:=H1;clear H1
                  as_aux_lemma=>
                   have H':=aM H;clear H;obtain ⟨Ao41,co41,eo41⟩:=Kd.V_slice HO_7.out;subst eo41;have p127:0≤(0:Int):=(by omega);have q127:0<(t105.length:Int):=of_decide_eq_true (by first|(with_reducible assumption)|assumption);obtain ⟨ad127,e127,hx127_0⟩:=Kd.at_int (Kd.Qo HO_7.out).2.2 0 p127 q127
                   cases e127
                   have qi127:(0<t105.length)=True:=eq_true (by omega);(try rw [show ((0:Int)).toNat=0 from rfl] at hx127_0);(try rw [Addr.add_zero'] at hx127_0);replace p127:=eq_true p127;replace q127:=eq_true q127;obtain ⟨Ao42,co42,eo42⟩:=Kd.V_slice HO120.out;subst eo42;go_wp2_with (first|(go_at_call 20;(with_reducible refine (laws_sameInts.calls k2 _ _ t118 _ _ t105 true _ ?side1 ?side2 ?side3 ?side4 A34.out).mono ?_);(case side1=>repeat (first|exact (Kd.Qo HO120.out).2.2|(with_reducible refine Kd.Qj ?_ _)|(with_reducible refine Kd.Qk ?_ _)|(with_reducible refine Kd.C_drew ?_)));(case side2=>exact (Kd.Qo HO120.out).2.1);(case side3=>repeat (first|exact (Kd.Qo HO_7.out).2.2|(with_reducible refine Kd.Qj ?_ _)|(with_reducible refine Kd.Qk ?_ _)|(with_reducible refine Kd.C_drew ?_)));(case side4=>exact (Kd.Qo HO_7.out).2.1);rintro e w' ⟨rfl,⟨nd,rfl⟩⟩;(try first|exact ⟨rfl,_,World.drewN_drewN _ _ _⟩|exact ⟨rfl,_,Eq.trans (World.drewN_drewN _ _ _) (congrArg (World.drewN _) (Nat.add_assoc _ _ _))⟩)))
                   repeat (go_quiet (first|(go_at_call 20;(with_reducible refine (laws_sameInts.calls k2 _ _ t118 _ _ t105 true _ ?side1 ?side2 ?side3 ?side4 A34.out).mono ?_);(case side1=>repeat (first|exact (Kd.Qo HO120.out).2.2|(with_reducible refine Kd.Qj ?_ _)|(with_reducible refine Kd.Qk ?_ _)|(with_reducible refine Kd.C_drew ?_)));(case side2=>exact (Kd.Qo HO120.out).2.1);(case side3=>repeat (first|exact (Kd.Qo HO_7.out).2.2|(with_reducible refine Kd.Qj ?_ _)|(with_reducible refine Kd.Qk ?_ _)|(with_reducible refine Kd.C_drew ?_)));(case side4=>exact (Kd.Qo HO_7.out).2.1);rintro e w' ⟨rfl,⟨nd,rfl⟩⟩;(try first|exact ⟨rfl,_,World.drewN_drewN _ _ _⟩|exact ⟨rfl,_,Eq.trans (World.drewN_drewN _ _ _) (congrArg (World.drewN _) (Nat.add_assoc _ _ _))⟩)));try go_wp2_with (first|(go_at_call 20;(with_reducible refine (laws_sameInts.calls k2 _ _ t118 _ _ t105 true _ ?side1 ?side2 ?side3 ?side4 A34.out).mono ?_);(case side1=>repeat (first|exact (Kd.Qo HO120.out).2.2|(with_reducible refine Kd.Qj ?_ _)|(with_reducible refine Kd.Qk ?_ _)|(with_reducible refine Kd.C_drew ?_)));(case side2=>exact (Kd.Qo HO120.out).2.1);(case side3=>repeat (first|exact (Kd.Qo HO_7.out).2.2|(with_reducible refine Kd.Qj ?_ _)|(with_reducible refine Kd.Qk ?_ _)|(with_reducible refine Kd.C_drew ?_)));(case side4=>exact (Kd.Qo HO_7.out).2.1);rintro e w' ⟨rfl,⟨nd,rfl⟩⟩;(try first|exact ⟨rfl,_,World.drewN_drewN _ _ _⟩|exact ⟨rfl,_,Eq.trans (World.drewN_drewN _ _ _) (congrArg (World.drewN _) (Nat.add_assoc _ _ _))⟩))))
                   go_meet
                   case rel=>exact ⟨_,(true),(by first|rfl|(simp;done)|(simp [*];done)),H',⟨by have:=HJ6.out;have:=HK2.out;first|omega|exact Nat.le_refl _⟩,⟨by (with_reducible repeat (first|apply Kd.V_alloc|apply Kd.V_drewN|apply Kd.V_drew));exact Kd.V_mono HO_7.out (fun _ hk=>trivial)⟩,⟨by repeat (first|(with_reducible first|exact HB.out|apply Qc|apply Qa|apply Qb)|exact HB.out)⟩⟩
                ·replace c35:=Bool.eq_false_iff.mpr c35;subst c35;have H1:(laws_FnTables.j2 k2 l1 t105 true)=some r:=by rw [if_neg (show ¬ (false=true) by decide)] at H;exact H
                 clear H;have H:=H1;clear H1
                 as_aux_lemma=>
                  have H':=aM H;clear H;obtain ⟨Ao43,co43,eo43⟩:=Kd.V_slice HO_7.out;subst eo43;have p127:0≤(0:Int):=(by omega);have q127:0<(t105.length:Int):=of_decide_eq_true (by first|(with_reducible assumption)|assumption);obtain ⟨ad127,e127,hx127_0⟩:=Kd.at_int (Kd.Qo HO_7.out).2.2 0 p127 q127
                  cases e127
                  have qi127:(0<t105.length)=True:=eq_true (by omega);(try rw [show ((0:Int)).toNat=0 from rfl] at hx127_0);(try rw [Addr.add_zero'] at hx127_0);replace p127:=eq_true p127;replace q127:=eq_true q127;obtain ⟨Ao44,co44,eo44⟩:=Kd.V_slice HO120.out;subst eo44;go_wp2_with (first|(go_at_call 20;(with_reducible refine (laws_sameInts.calls k2 _ _ t118 _ _ t105 false _ ?side1 ?side2 ?side3 ?side4 A34.out).mono ?_);(case side1=>repeat (first|exact (Kd.Qo HO120.out).2.2|(with_reducible refine Kd.Qj ?_ _)|(with_reducible refine Kd.Qk ?_ _)|(with_reducible refine Kd.C_drew ?_)));(case side2=>exact (Kd.Qo HO120.out).2.1);(case side3=>repeat (first|exact (Kd.Qo HO_7.out).2.2|(with_reducible refine Kd.Qj ?_ _)|(with_reducible refine Kd.Qk ?_ _)|(with_reducible refine Kd.C_drew ?_)));(case side4=>exact (Kd.Qo HO_7.out).2.1);rintro e w' ⟨rfl,⟨nd,rfl⟩⟩;(try first|exact ⟨rfl,_,World.drewN_drewN _ _ _⟩|exact ⟨rfl,_,Eq.trans (World.drewN_drewN _ _ _) (congrArg (World.drewN _) (Nat.add_assoc _ _ _))⟩)))
                  repeat (go_quiet (first|(go_at_call 20;(with_reducible refine (laws_sameInts.calls k2 _ _ t118 _ _ t105 false _ ?side1 ?side2 ?side3 ?side4 A34.out).mono ?_);(case side1=>repeat (first|exact (Kd.Qo HO120.out).2.2|(with_reducible refine Kd.Qj ?_ _)|(with_reducible refine Kd.Qk ?_ _)|(with_reducible refine Kd.C_drew ?_)));(case side2=>exact (Kd.Qo HO120.out).2.1);(case side3=>repeat (first|exact (Kd.Qo HO_7.out).2.2|(with_reducible refine Kd.Qj ?_ _)|(with_reducible refine Kd.Qk ?_ _)|(with_reducible refine Kd.C_drew ?_)));(case side4=>exact (Kd.Qo HO_7.out).2.1);rintro e w' ⟨rfl,⟨nd,rfl⟩⟩;(try first|exact ⟨rfl,_,World.drewN_drewN _ _ _⟩|exact ⟨rfl,_,Eq.trans (World.drewN_drewN _ _ _) (congrArg (World.drewN _) (Nat.add_assoc _ _ _))⟩)));try go_wp2_with (first|(go_at_call 20;(with_reducible refine (laws_sameInts.calls k2 _ _ t118 _ _ t105 false _ ?side1 ?side2 ?side3 ?side4 A34.out).mono ?_);(case side1=>repeat (first|exact (Kd.Qo HO120.out).2.2|(with_reducible refine Kd.Qj ?_ _)|(with_reducible refine Kd.Qk ?_ _)|(with_reducible refine Kd.C_drew ?_)));(case side2=>exact (Kd.Qo HO120.out).2.1);(case side3=>repeat (first|exact (Kd.Qo HO_7.out).2.2|(with_reducible refine Kd.Qj ?_ _)|(with_reducible refine Kd.Qk ?_ _)|(with_reducible refine Kd.C_drew ?_)));(case side4=>exact (Kd.Qo HO_7.out).2.1);rintro e w' ⟨rfl,⟨nd,rfl⟩⟩;(try first|exact ⟨rfl,_,World.drewN_drewN _ _ _⟩|exact ⟨rfl,_,Eq.trans (World.drewN_drewN _ _ _) (congrArg (World.drewN _) (Nat.add_assoc _ _ _))⟩))))
                  go_meet
                  case rel=>exact ⟨_,(true),(by first|rfl|(simp;done)|(simp [*];done)),H',⟨by have:=HJ6.out;have:=HK2.out;first|omega|exact Nat.le_refl _⟩,⟨by (with_reducible repeat (first|apply Kd.V_alloc|apply Kd.V_drewN|apply Kd.V_drew));exact Kd.V_mono HO_7.out (fun _ hk=>trivial)⟩,⟨by repeat (first|(with_reducible first|exact HB.out|apply Qc|apply Qa|apply Qb)|exact HB.out)⟩⟩
               ·replace c33:=Bool.eq_false_iff.mpr c33;subst c33;have H1:(laws_FnTables.j2 k2 l1 t105 true)=some r:=by rw [if_neg (show ¬ (false=true) by decide)] at H;exact H
                clear H;have H:=H1;clear H1
                as_aux_lemma=>
                 have H':=aM H;clear H;obtain ⟨Ao45,co45,eo45⟩:=Kd.V_slice HO_7.out;subst eo45;have p127:0≤(0:Int):=(by omega);have q127:0<(t105.length:Int):=of_decide_eq_true (by first|(with_reducible assumption)|assumption);obtain ⟨ad127,e127,hx127_0⟩:=Kd.at_int (Kd.Qo HO_7.out).2.2 0 p127 q127
                 cases e127
                 have qi127:(0<t105.length)=True:=eq_true (by omega);(try rw [show ((0:Int)).toNat=0 from rfl] at hx127_0);(try rw [Addr.add_zero'] at hx127_0);replace p127:=eq_true p127;replace q127:=eq_true q127;go_wp2
                 repeat (go_quiet (fail);try go_wp2)
                 go_meet
                 case rel=>exact ⟨_,(true),(by first|rfl|(simp;done)|(simp [*];done)),H',⟨by have:=HJ6.out;have:=HK2.out;first|omega|exact Nat.le_refl _⟩,⟨by (with_reducible repeat (first|apply Kd.V_alloc|apply Kd.V_drewN|apply Kd.V_drew));exact Kd.V_mono HO_7.out (fun _ hk=>trivial)⟩,⟨by repeat (first|(with_reducible first|exact HB.out|apply Qc|apply Qa|apply Qb)|exact HB.out)⟩⟩
              ·rw [if_neg c32] at H;have c32b0:((rd t105 0) == 0)=false:=beq_eq_false_iff_ne.mpr c32;have c32b1:((rd t105 0) != 0)=true:=bne_iff_ne.mpr c32
               as_aux_lemma=>
                have H':=aM H;clear H;obtain ⟨Ao46,co46,eo46⟩:=Kd.V_slice HO_7.out;subst eo46;have p127:0≤(0:Int):=(by omega);have q127:0<(t105.length:Int):=of_decide_eq_true (by first|(with_reducible assumption)|assumption);obtain ⟨ad127,e127,hx127_0⟩:=Kd.at_int (Kd.Qo HO_7.out).2.2 0 p127 q127
                cases e127
                have qi127:(0<t105.length)=True:=eq_true (by omega);(try rw [show ((0:Int)).toNat=0 from rfl] at hx127_0);(try rw [Addr.add_zero'] at hx127_0);replace p127:=eq_true p127;replace q127:=eq_true q127;go_wp2
                repeat (go_quiet (fail);try go_wp2)
                go_meet
                case rel=>exact ⟨_,(true),(by first|rfl|(simp;done)|(simp [*];done)),H',⟨by have:=HJ6.out;have:=HK2.out;first|omega|exact Nat.le_refl _⟩,⟨by (with_reducible repeat (first|apply Kd.V_alloc|apply Kd.V_drewN|apply Kd.V_drew));exact Kd.V_mono HO_7.out (fun _ hk=>trivial)⟩,⟨by repeat (first|(with_reducible first|exact HB.out|apply Qc|apply Qa|apply Qb)|exact HB.out)⟩⟩
             ·rw [if_neg c31] at H;exact absurd H (by simp)
            ·rw [if_neg c30] at H;have c30b0:((t105.length:Int) == (wrap64 (t102+1)))=false:=beq_eq_false_iff_ne.mpr c30;have c30b1:((t105.length:Int) != (wrap64 (t102+1)))=true:=bne_iff_ne.mpr c30
             (first|rw [c30b0]|(simp only [i64_w,i32_w];rw [c30b0])|skip)
             as_aux_lemma=>
              have H':=aM H;clear H;obtain ⟨Ao47,co47,eo47⟩:=Kd.V_slice HO_7.out;subst eo47;go_wp2
              repeat (go_quiet (fail);try go_wp2)
              go_meet
              case rel=>exact ⟨_,(true),(by first|rfl|(simp;done)|(simp [*];done)),H',⟨by have:=HJ6.out;have:=HK2.out;first|omega|exact Nat.le_refl _⟩,⟨by (with_reducible repeat (first|apply Kd.V_alloc|apply Kd.V_drewN|apply Kd.V_drew));exact Kd.V_mono HO_7.out (fun _ hk=>trivial)⟩,⟨by repeat (first|(with_reducible first|exact HB.out|apply Qc|apply Qa|apply Qb)|exact HB.out)⟩⟩
           case rest=>
            clear HC26;(try clear c1);(try clear p1);(try clear q1);(try clear hx1);(try clear qi1);(try clear c2);(try clear p2);(try clear c3);(try clear c3b0);(try clear c5);(try clear p6);(try clear c11);(try clear p11);(try clear q11);(try clear hx11);(try clear c12);(try clear c12b0);(try clear c12b1);(try clear c12b2);(try clear p12);(try clear q12);(try clear hx12);(try clear qi12);(try clear c16);(try clear c18);(try clear c19);(try clear c19b0);(try clear c20);(try clear c20b0);(try clear c21);(try clear c21b0);(try clear c22);(try clear c30);(try clear c30b0);(try clear c30b1);(try clear c31);(try clear c31b0);(try clear c31b1);(try clear c32);(try clear c32b0);(try clear c32b1);(try clear c33);(try clear c35);(try clear c36);(try clear c37);(try clear c37b0);(try clear c38);(try clear c38b0);(try clear hx114_0);(try clear hx127_0);(try clear hx129_0);(try clear p114);(try clear p127);(try clear p129);(try clear p2);(try clear p6);(try clear q114);(try clear q127);(try clear q129);obtain ⟨kq,x121_25,rfl,HA,HJ25,HO_7,HB⟩:=hcut
            cases kq with
            |zero=>exact absurd HA.out (by simp [laws_FnTables.j2])
            |succ kj25=>
             have H:=HA.out;clear HA;simp only [laws_FnTables.j2] at H;by_cases c48:x121_25=true
             ·subst c48;have H1:(some false)=some r:=by rw [if_pos rfl] at H;exact H
              clear H;have H:=H1;clear H1
              as_aux_lemma=>
               obtain rfl:=Option.some.inj H;go_wp2
               repeat (go_quiet (fail);try go_wp2)
               go_ret
               exact ⟨by first|rfl|(simp [errW_none,errW_some] <;> rfl)|(simp [*,errW_none,errW_some] <;> rfl),by repeat (first|(with_reducible first|exact HB.out|apply Qc|apply Qa|apply Qb)|exact HB.out)⟩
             ·replace c48:=Bool.eq_false_iff.mpr c48;subst c48;have H1:(laws_FnTables.l1 kj25 l1 t105 1)=some r:=by rw [if_neg (show ¬ (false=true) by decide)] at H;exact H
              clear H;have H:=H1;clear H1;have H':=aM H;clear H;go_wp2
              repeat (go_quiet (fail);try go_wp2)
              go_loopg [18] kj25 (fun kq v18 w'=>∃ (x18_4:Int),v18= .int .i64 x18_4∧Aside0 (laws_FnTables.l1 kq l1 t105 x18_4=some r)∧Aside0 (kq≤kj25)∧Aside0 (Kd.V (Kd.int .i64) 3 w' w.heap.size (fun _=>True) v106 t105)∧Aside0 (Below w.heap.size w w'))
              case atStart=>exact ⟨(1),(by first|rfl|(simp;done)|(simp [*];done)),H',⟨Nat.le_refl _⟩,⟨by (with_reducible repeat (first|apply Kd.V_alloc|apply Kd.V_drewN|apply Kd.V_drew));exact HO_7.out⟩,⟨by repeat (first|(with_reducible first|exact HB.out|apply Qc|apply Qa|apply Qb)|exact HB.out)⟩⟩
              case round=>
               clear H';(try clear c1);(try clear p1);(try clear q1);(try clear hx1);(try clear qi1);(try clear c2);(try clear p2);(try clear c3);(try clear c3b0);(try clear c4);(try clear c5);(try clear p6);(try clear c11);(try clear p11);(try clear q11);(try clear hx11);(try clear c12);(try clear c12b0);(try clear c12b1);(try clear c12b2);(try clear p12);(try clear q12);(try clear hx12);(try clear qi12);(try clear c16);(try clear c18);(try clear c19);(try clear c19b0);(try clear c20);(try clear c20b0);(try clear c21);(try clear c21b0);(try clear c22);(try clear c30);(try clear c30b0);(try clear c30b1);(try clear c31);(try clear c31b0);(try clear c31b1);(try clear c32);(try clear c32b0);(try clear c32b1);(try clear c33);(try clear c35);(try clear c36);(try clear c37);(try clear c37b0);(try clear c38);(try clear c38b0);(try clear c48);(try clear hx114_0);(try clear hx127_0);(try clear hx129_0);(try clear p1);(try clear p11);(try clear p114);(try clear p12);(try clear p127);(try clear p129);(try clear p2);(try clear p6);(try clear q1);(try clear q11);(try clear q114);(try clear q12);(try clear q127);(try clear q129);obtain ⟨x18_4,rfl,HA,HK4,HO_7,HB⟩:=hrel
               cases gk with
               |zero=>exact absurd HA.out (by simp [laws_FnTables.l1])
               |succ k4=>
                have H:=HA.out;clear HA;simp only [laws_FnTables.l1] at H;by_cases c49:x18_4<(t105.length:Int)
                ·rw [if_pos c49] at H;have c49b0:decide (x18_4<(t105.length:Int))=true:=decide_eq_true c49;clear c49;by_cases c50:0≤x18_4
                 ·rw [if_pos c50] at H;have c50b0:decide (0≤x18_4)=true:=decide_eq_true c50;clear c50;obtain ⟨ji51,hji51⟩:∃ j_:Int,(wrap64 (x18_4 - 1))=j_:=⟨_,rfl⟩;replace H:(if 0≤(ji51) then (if (ji51)<(t105.length:Int) then (if (rd t105 x18_4)<(rd t105 (ji51)) then (some false) else (laws_FnTables.l1 k4 l1 t105 (wrap64 (x18_4+1)))) else (none)) else (none))=some r:=by first|(rw [hji51] at H;exact H)|(simp only [hji51] at H ⊢;exact H)
                  have hji51w:(IntKind.i64.wrap (x18_4 - 1))=ji51:=(i64_w _).trans hji51;by_cases c52:0≤(ji51)
                  ·rw [if_pos c52] at H;have c52b0:decide (0≤(ji51))=true:=decide_eq_true c52;clear c52;by_cases c53:(ji51)<(t105.length:Int)
                   ·rw [if_pos c53] at H;have c53b0:decide ((ji51)<(t105.length:Int))=true:=decide_eq_true c53;clear c53;by_cases c54:(rd t105 x18_4)<(rd t105 (ji51))
                    ·rw [if_pos c54] at H;have c54b0:decide ((rd t105 x18_4)<(rd t105 (ji51)))=true:=decide_eq_true c54;clear c54
                     as_aux_lemma=>
                      obtain rfl:=Option.some.inj H;obtain ⟨Ao55,co55,eo55⟩:=Kd.V_slice HO_7.out;subst eo55;have p130:0≤(x18_4:Int):=of_decide_eq_true (by first|(with_reducible assumption)|assumption);have q130:x18_4<(t105.length:Int):=of_decide_eq_true (by first|(with_reducible assumption)|assumption);obtain ⟨ad130,e130,hx130_0⟩:=Kd.at_int (Kd.Qo HO_7.out).2.2 x18_4 p130 q130
                      cases e130
                      replace p130:=eq_true p130;replace q130:=eq_true q130;have p131:0≤((ji51):Int):=of_decide_eq_true (by first|(with_reducible assumption)|assumption);have q131:(ji51)<(t105.length:Int):=of_decide_eq_true (by first|(with_reducible assumption)|assumption);obtain ⟨ad131,e131,hx131_0⟩:=Kd.at_int (Kd.Qo HO_7.out).2.2 (ji51) p131 q131;obtain rfl:ad130=ad131:=(by injection e131);replace p131:=eq_true p131;replace q131:=eq_true q131;go_wp2
                      repeat (go_quiet (fail);try go_wp2)
                      go_ret
                      exact ⟨by first|rfl|(simp [errW_none,errW_some] <;> rfl)|(simp only [←hji51];first|rfl|(simp [errW_none,errW_some] <;> rfl))|(simp [*,errW_none,errW_some] <;> rfl),by repeat (first|(with_reducible first|exact HB.out|apply Qc|apply Qa|apply Qb)|exact HB.out)⟩
                    ·rw [if_neg c54] at H;have c54b0:decide ((rd t105 x18_4)<(rd t105 (ji51)))=false:=decide_eq_false c54;clear c54
                     as_aux_lemma=>
                      have H':=aM H;clear H;obtain ⟨Ao56,co56,eo56⟩:=Kd.V_slice HO_7.out;subst eo56;have p130:0≤(x18_4:Int):=of_decide_eq_true (by first|(with_reducible assumption)|assumption);have q130:x18_4<(t105.length:Int):=of_decide_eq_true (by first|(with_reducible assumption)|assumption);obtain ⟨ad130,e130,hx130_0⟩:=Kd.at_int (Kd.Qo HO_7.out).2.2 x18_4 p130 q130
                      cases e130
                      replace p130:=eq_true p130;replace q130:=eq_true q130;have p131:0≤((ji51):Int):=of_decide_eq_true (by first|(with_reducible assumption)|assumption);have q131:(ji51)<(t105.length:Int):=of_decide_eq_true (by first|(with_reducible assumption)|assumption);obtain ⟨ad131,e131,hx131_0⟩:=Kd.at_int (Kd.Qo HO_7.out).2.2 (ji51) p131 q131;obtain rfl:ad130=ad131:=(by injection e131);replace p131:=eq_true p131;replace q131:=eq_true q131;go_wp2
                      repeat (go_quiet (fail);try go_wp2)
                      go_roundg k4
                      case measure=>have:=HJ6.out;have:=HK2.out;have:=HJ25.out;have:=HK4.out;omega
                      case rel=>exact ⟨(wrap64 (x18_4+1)),(by first|rfl|(simp;done)|(simp [*];done)),H',⟨by have:=HJ6.out;have:=HK2.out;have:=HJ25.out;have:=HK4.out;omega⟩,⟨by (with_reducible repeat (first|apply Kd.V_alloc|apply Kd.V_drewN|apply Kd.V_drew));exact HO_7.out⟩,⟨by repeat (first|(with_reducible first|exact HB.out|apply Qc|apply Qa|apply Qb)|exact HB.out)⟩⟩
                   ·rw [if_neg c53] at H;exact absurd H (by simp)
                  ·rw [if_neg c52] at H;exact absurd H (by simp)
                 ·rw [if_neg c50] at H;exact absurd H (by simp)
                ·rw [if_neg c49] at H;have c49b0:decide (x18_4<(t105.length:Int))=false:=decide_eq_false c49;clear c49
                 as_aux_lemma=>
                  have H':=aM H;clear H;obtain ⟨Ao57,co57,eo57⟩:=Kd.V_slice HO_7.out;subst eo57;go_wp2
                  repeat (go_quiet (fail);try go_wp2)
                  go_meet
                  case rel=>exact ⟨_,H',⟨by have:=HJ6.out;have:=HK2.out;have:=HJ25.out;have:=HK4.out;first|omega|exact Nat.le_refl _⟩,⟨by repeat (first|(with_reducible first|exact HB.out|apply Qc|apply Qa|apply Qb)|exact HB.out)⟩⟩
       ·replace c18:=Bool.eq_false_iff.mpr c18;subst c18;have H1:(laws_FnTables.j4 kj6 l1)=some r:=by rw [if_neg (show ¬ (false=true) by decide)] at H;exact H
        clear H;have H:=H1;clear H1
        as_aux_lemma=>
         have H':=aM H;clear H;go_wp2
         repeat (go_quiet (fail);try go_wp2)
         go_meet
         case rel=>exact ⟨_,H',⟨by have:=HJ6.out;first|omega|exact Nat.le_refl _⟩,⟨by repeat (first|(with_reducible first|exact HB.out|apply Qc|apply Qa|apply Qb)|exact HB.out)⟩⟩
      case rest=>
       clear HC17;(try clear c1);(try clear p1);(try clear q1);(try clear hx1);(try clear qi1);(try clear c2);(try clear p2);(try clear c3);(try clear c3b0);(try clear c4);(try clear c5);(try clear p6);(try clear c11);(try clear p11);(try clear q11);(try clear hx11);(try clear c12);(try clear c12b0);(try clear c12b1);(try clear c12b2);(try clear p12);(try clear q12);(try clear hx12);(try clear qi12);(try clear p13);(try clear q13);(try clear hx13);(try clear c16);(try clear c18);(try clear c19);(try clear c19b0);(try clear c20);(try clear c20b0);(try clear c21);(try clear c21b0);(try clear c22);(try clear c30);(try clear c30b0);(try clear c30b1);(try clear c31);(try clear c31b0);(try clear c31b1);(try clear c32);(try clear c32b0);(try clear c32b1);(try clear c33);(try clear c35);(try clear c36);(try clear c37);(try clear c37b0);(try clear c38);(try clear c38b0);(try clear c48);(try clear c49);(try clear c49b0);(try clear c50);(try clear c50b0);(try clear c52);(try clear c52b0);(try clear c53);(try clear c53b0);(try clear c54);(try clear c54b0);(try clear hx114_0);(try clear hx127_0);(try clear hx129_0);(try clear hx130_0);(try clear hx131_0);(try clear p1);(try clear p11);(try clear p114);(try clear p12);(try clear p127);(try clear p129);(try clear p130);(try clear p131);(try clear p2);(try clear p6);(try clear q1);(try clear q11);(try clear q114);(try clear q12);(try clear q127);(try clear q129);(try clear q130);(try clear q131);obtain ⟨kq,HA,HJ16,HB⟩:=hcut
       cases kq with
       |zero=>exact absurd HA.out (by simp [laws_FnTables.j4])
       |succ kj16=>
        have H:=HA.out;clear HA;simp only [laws_FnTables.j4] at H;replace H:=Option.bind_eq_some_iff.mp H;obtain ⟨⟨t132,t133,t134⟩,A580,H⟩:=H;replace H:((impl_DropOffer.f kj16 t132 t133 t134).bind fun bt137=>((spec_DropOffer.f kj16 t132 t133 t134).bind fun bt139=>(if (bt137.2 != bt139.2)=true then (laws_FnTables.j5 kj16 t132 t133 t134 bt137.1 bt137.2 true) else (laws_FnTables.j5 kj16 t132 t133 t134 bt137.1 bt137.2 (bt137.1 != bt139.1)))))=some r:=H;have A58:=aM A580;clear A580;replace H:=Option.bind_eq_some_iff.mp H;obtain ⟨⟨t137,t138⟩,A590,H⟩:=H;replace H:((spec_DropOffer.f kj16 t132 t133 t134).bind fun bt139=>(if (t138 != bt139.2)=true then (laws_FnTables.j5 kj16 t132 t133 t134 t137 t138 true) else (laws_FnTables.j5 kj16 t132 t133 t134 t137 t138 (t137 != bt139.1))))=some r:=H;have A59:=aM A590;clear A590;replace H:=Option.bind_eq_some_iff.mp H;obtain ⟨⟨t139,t140⟩,A600,H⟩:=H;replace H:(if (t138 != t140)=true then (laws_FnTables.j5 kj16 t132 t133 t134 t137 t138 true) else (laws_FnTables.j5 kj16 t132 t133 t134 t137 t138 (t137 != t139)))=some r:=H;have A60:=aM A600;clear A600;have HC61:=aM H;clear H
        go_upto_region 26 with (first|(go_at_call 41;(with_reducible refine (spec_DrawDropOffer.calls kj16 _ _ l1 t132 t133 t134 _ ?side1 ?side2 A58.out).mono ?_);(case side1=>repeat (first|exact (Kd.C_below HR1.out HB.out)|(with_reducible refine Kd.Qj ?_ _)|(with_reducible refine Kd.Qk ?_ _)|(with_reducible refine Kd.C_drew ?_)));(case side2=>exact HC1.out);rintro e w62 ⟨v135,rfl,ho0,hb⟩;have n0_:=aM (Kd.N_lower (Kd.N_mono (ok':=fun k_=>True) (Kd.S_N (Kd.S_bound ho0)) (fun k_ hk_=>trivial)) (Qh (by repeat (first|(with_reducible first|exact HB.out|apply Qc|apply Qa|apply Qb)|exact HB.out))));have n1_:=aM (Qi (by repeat (first|(with_reducible first|exact HB.out|apply Qc|apply Qa|apply Qb)|exact HB.out)) hb);clear HB;have HO136:=n0_;have HB:=n1_;clear n0_ n1_;(try clear hb);(try clear hb2);(try clear hk);(try clear hi);(try clear ho0);obtain ⟨Ao63,co63,eo63⟩:=Kd.N_slice HO136.out;subst eo63)|(go_at_call 42;(with_reducible refine (impl_DropOffer.calls kj16 _ _ t132 t133 t134 t137 t138 _ ?side1 ?side2 A59.out).mono ?_);(case side1=>repeat (first|exact (Kd.Qs HO136.out).2.2|(with_reducible refine Kd.Qj ?_ _)|(with_reducible refine Kd.Qk ?_ _)|(with_reducible refine Kd.C_drew ?_)));(case side2=>exact (Kd.Qs HO136.out).2.1);rintro e w64 ⟨rfl,hb⟩;have n0_:=aM (Kd.N_below (by (with_reducible repeat (first|apply Kd.Ql|apply Kd.Qm|apply Kd.N_drew));exact HO136.out) hb);have n1_:=aM (Qi (by repeat (first|(with_reducible first|exact HB.out|apply Qc|apply Qa|apply Qb)|exact HB.out)) hb);clear HO136;clear HB;have HO136:=n0_;have HB:=n1_;clear n0_ n1_;(try clear hb);(try clear hb2);(try clear hk);(try clear hi))|(go_at_call 43;(with_reducible refine (spec_DropOffer.calls kj16 (fun k_=>True) _ _ t132 t133 t134 t139 t140 _ ?side1 A60.out).mono ?_);(case side1=>exact Kd.N_V (HO136.out));rintro e w65 ⟨rfl,hb⟩;have n0_:=aM (Kd.N_below (by (with_reducible repeat (first|apply Kd.Ql|apply Kd.Qm|apply Kd.N_drew));exact HO136.out) hb);have n1_:=aM (Qi (by repeat (first|(with_reducible first|exact HB.out|apply Qc|apply Qa|apply Qb)|exact HB.out)) hb);clear HO136;clear HB;have HO136:=n0_;have HB:=n1_;clear n0_ n1_;(try clear hb);(try clear hb2);(try clear hk);(try clear hi)))
        repeat (go_quiet (first|(go_at_call 41;(with_reducible refine (spec_DrawDropOffer.calls kj16 _ _ l1 t132 t133 t134 _ ?side1 ?side2 A58.out).mono ?_);(case side1=>repeat (first|exact (Kd.C_below HR1.out HB.out)|(with_reducible refine Kd.Qj ?_ _)|(with_reducible refine Kd.Qk ?_ _)|(with_reducible refine Kd.C_drew ?_)));(case side2=>exact HC1.out);rintro e w62 ⟨v135,rfl,ho0,hb⟩;have n0_:=aM (Kd.N_lower (Kd.N_mono (ok':=fun k_=>True) (Kd.S_N (Kd.S_bound ho0)) (fun k_ hk_=>trivial)) (Qh (by repeat (first|(with_reducible first|exact HB.out|apply Qc|apply Qa|apply Qb)|exact HB.out))));have n1_:=aM (Qi (by repeat (first|(with_reducible first|exact HB.out|apply Qc|apply Qa|apply Qb)|exact HB.out)) hb);clear HB;have HO136:=n0_;have HB:=n1_;clear n0_ n1_;(try clear hb);(try clear hb2);(try clear hk);(try clear hi);(try clear ho0);obtain ⟨Ao63,co63,eo63⟩:=Kd.N_slice HO136.out;subst eo63)|(go_at_call 42;(with_reducible refine (impl_DropOffer.calls kj16 _ _ t132 t133 t134 t137 t138 _ ?side1 ?side2 A59.out).mono ?_);(case side1=>repeat (first|exact (Kd.Qs HO136.out).2.2|(with_reducible refine Kd.Qj ?_ _)|(with_reducible refine Kd.Qk ?_ _)|(with_reducible refine Kd.C_drew ?_)));(case side2=>exact (Kd.Qs HO136.out).2.1);rintro e w64 ⟨rfl,hb⟩;have n0_:=aM (Kd.N_below (by (with_reducible repeat (first|apply Kd.Ql|apply Kd.Qm|apply Kd.N_drew));exact HO136.out) hb);have n1_:=aM (Qi (by repeat (first|(with_reducible first|exact HB.out|apply Qc|apply Qa|apply Qb)|exact HB.out)) hb);clear HO136;clear HB;have HO136:=n0_;have HB:=n1_;clear n0_ n1_;(try clear hb);(try clear hb2);(try clear hk);(try clear hi))|(go_at_call 43;(with_reducible refine (spec_DropOffer.calls kj16 (fun k_=>True) _ _ t132 t133 t134 t139 t140 _ ?side1 A60.out).mono ?_);(case side1=>exact Kd.N_V (HO136.out));rintro e w65 ⟨rfl,hb⟩;have n0_:=aM (Kd.N_below (by (with_reducible repeat (first|apply Kd.Ql|apply Kd.Qm|apply Kd.N_drew));exact HO136.out) hb);have n1_:=aM (Qi (by repeat (first|(with_reducible first|exact HB.out|apply Qc|apply Qa|apply Qb)|exact HB.out)) hb);clear HO136;clear HB;have HO136:=n0_;have HB:=n1_;clear n0_ n1_;(try clear hb);(try clear hb2);(try clear hk);(try clear hi)));go_upto_region 26 with (first|(go_at_call 41;(with_reducible refine (spec_DrawDropOffer.calls kj16 _ _ l1 t132 t133 t134 _ ?side1 ?side2 A58.out).mono ?_);(case side1=>repeat (first|exact (Kd.C_below HR1.out HB.out)|(with_reducible refine Kd.Qj ?_ _)|(with_reducible refine Kd.Qk ?_ _)|(with_reducible refine Kd.C_drew ?_)));(case side2=>exact HC1.out);rintro e w62 ⟨v135,rfl,ho0,hb⟩;have n0_:=aM (Kd.N_lower (Kd.N_mono (ok':=fun k_=>True) (Kd.S_N (Kd.S_bound ho0)) (fun k_ hk_=>trivial)) (Qh (by repeat (first|(with_reducible first|exact HB.out|apply Qc|apply Qa|apply Qb)|exact HB.out))));have n1_:=aM (Qi (by repeat (first|(with_reducible first|exact HB.out|apply Qc|apply Qa|apply Qb)|exact HB.out)) hb);clear HB;have HO136:=n0_;have HB:=n1_;clear n0_ n1_;(try clear hb);(try clear hb2);(try clear hk);(try clear hi);(try clear ho0);obtain ⟨Ao63,co63,eo63⟩:=Kd.N_slice HO136.out;subst eo63)|(go_at_call 42;(with_reducible refine (impl_DropOffer.calls kj16 _ _ t132 t133 t134 t137 t138 _ ?side1 ?side2 A59.out).mono ?_);(case side1=>repeat (first|exact (Kd.Qs HO136.out).2.2|(with_reducible refine Kd.Qj ?_ _)|(with_reducible refine Kd.Qk ?_ _)|(with_reducible refine Kd.C_drew ?_)));(case side2=>exact (Kd.Qs HO136.out).2.1);rintro e w64 ⟨rfl,hb⟩;have n0_:=aM (Kd.N_below (by (with_reducible repeat (first|apply Kd.Ql|apply Kd.Qm|apply Kd.N_drew));exact HO136.out) hb);have n1_:=aM (Qi (by repeat (first|(with_reducible first|exact HB.out|apply Qc|apply Qa|apply Qb)|exact HB.out)) hb);clear HO136;clear HB;have HO136:=n0_;have HB:=n1_;clear n0_ n1_;(try clear hb);(try clear hb2);(try clear hk);(try clear hi))|(go_at_call 43;(with_reducible refine (spec_DropOffer.calls kj16 (fun k_=>True) _ _ t132 t133 t134 t139 t140 _ ?side1 A60.out).mono ?_);(case side1=>exact Kd.N_V (HO136.out));rintro e w65 ⟨rfl,hb⟩;have n0_:=aM (Kd.N_below (by (with_reducible repeat (first|apply Kd.Ql|apply Kd.Qm|apply Kd.N_drew));exact HO136.out) hb);have n1_:=aM (Qi (by repeat (first|(with_reducible first|exact HB.out|apply Qc|apply Qa|apply Qb)|exact HB.out)) hb);clear HO136;clear HB;have HO136:=n0_;have HB:=n1_;clear n0_ n1_;(try clear hb);(try clear hb2);(try clear hk);(try clear hi))))
        (try simp only [Act.put,aA,aB,aC])
        go_cut [165] (fun v165 wc=>∃ (kq:Nat) (x165_60:Bool),v165= .bool x165_60∧Aside0 (laws_FnTables.j5 kq t132 t133 t134 t137 t138 x165_60=some r)∧Aside0 (kq≤kj16)∧Aside0 (Kd.N k53 53 wc w.heap.size (fun _=>True) (.slice Ao63 t132.length co63) t132)∧Aside0 (Below w.heap.size w wc))
        case first=>
         have H:=HC61.out;clear HC61;by_cases c66:(t138 != t140)=true
         ·rw [if_pos c66] at H;have c66b0:(t138 != t140)=true:=c66;(try (have c66b1:decide (t138=t140)=false:=by simpa using c66));(try (have c66b2:(t138 == t140)=false:=by simpa using c66));(try (have c66b3: ¬ (t138=t140):=by simpa using c66));clear c66
          (first|rw [c66b0]|(simp only [i64_w,i32_w];rw [c66b0])|skip)
          as_aux_lemma=>
           have H':=aM H;clear H;go_wp2
           repeat (go_quiet (fail);try go_wp2)
           go_meet
           case rel=>exact ⟨_,(true),(by first|rfl|(simp;done)|(simp [*];done)),H',⟨by have:=HJ6.out;have:=HJ16.out;first|omega|exact Nat.le_refl _⟩,⟨by (with_reducible repeat (first|apply Kd.Ql|apply Kd.Qm|apply Kd.N_drew));exact HO136.out⟩,⟨by repeat (first|(with_reducible first|exact HB.out|apply Qc|apply Qa|apply Qb)|exact HB.out)⟩⟩
         ·rw [if_neg c66] at H;have c66b0:(t138 != t140)=false:=by simpa using c66
          (try (have c66b1:decide (t138=t140)=true:=by simpa using c66));(try (have c66b2:(t138 == t140)=true:=by simpa using c66));clear c66
          (first|rw [c66b0]|(simp only [i64_w,i32_w];rw [c66b0])|skip)
          as_aux_lemma=>
           have H':=aM H;clear H;go_wp2
           repeat (go_quiet (fail);try go_wp2)
           go_meet
           case rel=>exact ⟨_,((t137 != t139)),(by first|rfl|(simp;done)|(simp [*];done)),H',⟨by have:=HJ6.out;have:=HJ16.out;first|omega|exact Nat.le_refl _⟩,⟨by (with_reducible repeat (first|apply Kd.Ql|apply Kd.Qm|apply Kd.N_drew));exact HO136.out⟩,⟨by repeat (first|(with_reducible first|exact HB.out|apply Qc|apply Qa|apply Qb)|exact HB.out)⟩⟩
        case rest=>
         clear HC61;(try clear c1);(try clear p1);(try clear q1);(try clear hx1);(try clear qi1);(try clear c2);(try clear p2);(try clear c3);(try clear c3b0);(try clear c4);(try clear c5);(try clear c6);(try clear p6);(try clear c11);(try clear p11);(try clear q11);(try clear hx11);(try clear c12);(try clear c12b0);(try clear c12b1);(try clear c12b2);(try clear p12);(try clear q12);(try clear hx12);(try clear qi12);(try clear p13);(try clear q13);(try clear hx13);(try clear c16);(try clear c18);(try clear c19);(try clear c19b0);(try clear c20);(try clear c20b0);(try clear c21);(try clear c21b0);(try clear c22);(try clear c30);(try clear c30b0);(try clear c30b1);(try clear c31);(try clear c31b0);(try clear c31b1);(try clear c32);(try clear c32b0);(try clear c32b1);(try clear c33);(try clear c35);(try clear c36);(try clear c37);(try clear c37b0);(try clear c38);(try clear c38b0);(try clear c48);(try clear c49);(try clear c49b0);(try clear c50);(try clear c50b0);(try clear c52);(try clear c52b0);(try clear c53);(try clear c53b0);(try clear c54);(try clear c54b0);(try clear p64);(try clear c66);(try clear c66b0);(try clear c66b1);(try clear c66b2);(try clear hx114_0);(try clear hx127_0);(try clear hx129_0);(try clear hx130_0);(try clear hx131_0);(try clear p1);(try clear p11);(try clear p114);(try clear p12);(try clear p127);(try clear p129);(try clear p13);(try clear p130);(try clear p131);(try clear p2);(try clear p6);(try clear q1);(try clear q11);(try clear q114);(try clear q12);(try clear q127);(try clear q129);(try clear q13);(try clear q130);(try clear q131);obtain ⟨kq,x165_60,rfl,HA,HJ60,HO_19,HB⟩:=hcut
         cases kq with
         |zero=>exact absurd HA.out (by simp [laws_FnTables.j5])
         |succ kj60=>
          have H:=HA.out;clear HA;simp only [laws_FnTables.j5] at H;by_cases c67:x165_60=true
          ·subst c67;have H1:(some false)=some r:=by rw [if_pos rfl] at H;exact H
           clear H;have H:=H1;clear H1
           as_aux_lemma=>
            obtain rfl:=Option.some.inj H;go_wp2
            repeat (go_quiet (fail);try go_wp2)
            go_ret
            exact ⟨by first|rfl|(simp [errW_none,errW_some] <;> rfl)|(simp [*,errW_none,errW_some] <;> rfl),by repeat (first|(with_reducible first|exact HB.out|apply Qc|apply Qa|apply Qb)|exact HB.out)⟩
          ·replace c67:=Bool.eq_false_iff.mpr c67;subst c67;have H1:(if t138=true then (if 0≤t133 then (if t133≤(wrap64 (t133+1)) then (if (wrap64 (t133+1))≤(t132.length:Int) then ((impl_BestChoice.f kj60 ((t132.take ((wrap64 (t133+1)):Int).toNat).drop (t133:Int).toNat) t134).bind fun bt146=>(if bt146.2.2=true then (if t137 ≥ 0 then (some (decide (t137≤bt146.2.1))) else (some false)) else (some false))) else (none)) else (none)) else (none)) else (some true))=some r:=by rw [if_neg (show ¬ (false=true) by decide)] at H;exact H
           clear H;have H:=H1;clear H1;by_cases c68:t138=true
           ·subst c68;have H1:(if 0≤t133 then (if t133≤(wrap64 (t133+1)) then (if (wrap64 (t133+1))≤(t132.length:Int) then ((impl_BestChoice.f kj60 ((t132.take ((wrap64 (t133+1)):Int).toNat).drop (t133:Int).toNat) t134).bind fun bt146=>(if bt146.2.2=true then (if t137 ≥ 0 then (some (decide (t137≤bt146.2.1))) else (some false)) else (some false))) else (none)) else (none)) else (none))=some r:=by rw [if_pos rfl] at H;exact H
            clear H;have H:=H1;clear H1;by_cases c69:0≤t133
            ·rw [if_pos c69] at H;have c69b0:=eq_true c69;have c69b1:decide (0≤t133)=true:=decide_eq_true c69;clear c69;by_cases c70:t133≤(wrap64 (t133+1))
             ·rw [if_pos c70] at H;have c70b0:=eq_true c70;have c70b1:decide (t133≤(wrap64 (t133+1)))=true:=decide_eq_true c70;by_cases c71:(wrap64 (t133+1))≤(t132.length:Int)
              ·rw [if_pos c71] at H;have c71b0:=eq_true c71;have c71b1:decide ((wrap64 (t133+1))≤(t132.length:Int))=true:=decide_eq_true c71;obtain ⟨y141,hy141⟩:∃ y_:List (S53),y_=((t132.take ((wrap64 (t133+1)):Int).toNat).drop (t133:Int).toNat):=⟨_,rfl⟩;replace H:((impl_BestChoice.f kj60 y141 t134).bind fun bt146=>(if bt146.2.2=true then (if t137 ≥ 0 then (some (decide (t137≤bt146.2.1))) else (some false)) else (some false)))=some r:=by first|(rw [hy141];with_reducible exact H)|(have H2_:=(Option.bind_some _ _).symm.trans H;rw [hy141];with_reducible exact H2_)|(have H2_:=(Option.bind_some _ _).symm.trans H;with_reducible exact H2_)|with_reducible exact H|(rw [hy141];exact H)|exact H
               have Ny141:=aM hy141;clear hy141;replace H:=Option.bind_eq_some_iff.mp H;obtain ⟨⟨t146,t147,t148⟩,A720,H⟩:=H;replace H:(if t148=true then (if t137 ≥ 0 then (some (decide (t137≤t147))) else (some false)) else (some false))=some r:=H;have A72:=aM A720;clear A720;by_cases c73:t148=true
               ·subst c73;have H1:(if t137 ≥ 0 then (some (decide (t137≤t147))) else (some false))=some r:=by rw [if_pos rfl] at H;exact H
                clear H;have H:=H1;clear H1;by_cases c74:t137 ≥ 0
                ·rw [if_pos c74] at H;have c74b0:decide (0≤t137)=true:=decide_eq_true c74;clear c74
                 as_aux_lemma=>
                  obtain rfl:=Option.some.inj H;have q75:((wrap64 (t133+1)):Int)≤((t132.length:Int):Int):=of_decide_eq_true (by first|(with_reducible assumption)|assumption);obtain ⟨i075,hi075,_,hsz75,_⟩:=info_parts info53;have hroom75:t132.length≤co63:=(Kd.Qs HO_19.out).2.1;have hC75:Kd.F k53 _ _ Ao63 t132.length t132:=(Kd.V_at (base:=w.heap.size) (Kd.N_V HO_19.out)).2.2;have ql75:(t133:Int)≤((wrap64 (t133+1)):Int):=of_decide_eq_true (by first|(with_reducible assumption)|assumption);have q075:(0:Int)≤(t133:Int):=of_decide_eq_true (by first|(with_reducible assumption)|assumption);have hcut75:=cut_mid (P:=Try.prog) 48 53 .i64 .i64 Try.underlying48 hi075 1 hsz75 Ao63 t132.length co63 t133 (wrap64 (t133+1)) q075 ql75 q75 hroom75;have hr75:=Kd.F_mid (lo:=(t133:Int).toNat) (hi:=((wrap64 (t133+1)):Int).toNat) (c:=co63) hC75 (by omega) (by omega) hroom75;obtain ⟨A75,hA75⟩:∃ A1,A1=(if co63=(t133:Int).toNat then Ao63 else (Ao63:Option Addr).map (·.add ((t133:Int).toNat * 1))):=⟨_,rfl⟩;obtain ⟨c75,hc75⟩:∃ c1,c1=co63 - (t133:Int).toNat:=⟨_,rfl⟩;have hy75:y141.length=((wrap64 (t133+1)):Int).toNat - (t133:Int).toNat:=(by rw [Ny141.out,aG,aH] <;> omega);rw [show ((t132).take ((wrap64 (t133+1)):Int).toNat).drop (t133:Int).toNat=y141 from Ny141.out.symm] at hr75;replace hr75:Kd.F k53 _ _ A75 y141.length y141:=(by rw [hA75];exact hr75);rw [←hy75,←hA75,←hc75] at hcut75;have HO145:=aM (show Kd.V k53 53 _ w.heap.size _ (.slice A75 y141.length c75) y141 from Kd.V_mk (by rw [hy75,hc75];exact Nat.sub_le_sub_right (Nat.le_trans (by omega) hroom75) _) hr75);have HC145:=aM (show y141.length≤c75 from by rw [hy75,hc75];exact Nat.sub_le_sub_right (Nat.le_trans (by omega) hroom75) _);clear hr75 hC75 hroom75 hi075 hsz75 hc75;have KY75:=aM hy75;have KA75:=aM hA75;clear hy75 hA75;replace q75:=eq_true q75;go_wp2_with (first|(go_at_call 40;(with_reducible refine (impl_BestChoice.calls kj60 _ _ y141 t134 t146 t147 true _ ?side1 ?side2 A72.out).mono ?_);(case side1=>repeat (first|exact (Kd.Qo HO145.out).2.2|(with_reducible refine Kd.Qj ?_ _)|(with_reducible refine Kd.Qk ?_ _)|(with_reducible refine Kd.C_drew ?_)));(case side2=>exact (Kd.Qo HO145.out).2.1);rintro e w76 ⟨v149,rfl,ho0,hb⟩;have n0_:=aM (Kd.N_elder' (by (with_reducible repeat (first|apply Kd.Ql|apply Kd.Qm|apply Kd.N_drew));exact HO_19.out) (Kd.R_base ho0) hb);have n1_:=aM (Kd.V_elder' (by (with_reducible repeat (first|apply Kd.V_alloc|apply Kd.V_drewN|apply Kd.V_drew));exact HO145.out) (Kd.R_base ho0) hb);have n2_:=aM (Kd.R_lower ho0 (Qh (by repeat (first|(with_reducible first|exact HB.out|apply Qc|apply Qa|apply Qb)|exact HB.out))));have n3_:=aM (Qi (by repeat (first|(with_reducible first|exact HB.out|apply Qc|apply Qa|apply Qb)|exact HB.out)) hb);clear HO_19;clear HO145;clear HB;have HO_19:=n0_;have HO145:=n1_;have HO150:=n2_;have HB:=n3_;clear n0_ n1_ n2_ n3_;(try clear hb);(try clear hb2);(try clear hk);(try clear hi);(try clear ho0)))
                  repeat (go_quiet (first|(go_at_call 40;(with_reducible refine (impl_BestChoice.calls kj60 _ _ y141 t134 t146 t147 true _ ?side1 ?side2 A72.out).mono ?_);(case side1=>repeat (first|exact (Kd.Qo HO145.out).2.2|(with_reducible refine Kd.Qj ?_ _)|(with_reducible refine Kd.Qk ?_ _)|(with_reducible refine Kd.C_drew ?_)));(case side2=>exact (Kd.Qo HO145.out).2.1);rintro e w76 ⟨v149,rfl,ho0,hb⟩;have n0_:=aM (Kd.N_elder' (by (with_reducible repeat (first|apply Kd.Ql|apply Kd.Qm|apply Kd.N_drew));exact HO_19.out) (Kd.R_base ho0) hb);have n1_:=aM (Kd.V_elder' (by (with_reducible repeat (first|apply Kd.V_alloc|apply Kd.V_drewN|apply Kd.V_drew));exact HO145.out) (Kd.R_base ho0) hb);have n2_:=aM (Kd.R_lower ho0 (Qh (by repeat (first|(with_reducible first|exact HB.out|apply Qc|apply Qa|apply Qb)|exact HB.out))));have n3_:=aM (Qi (by repeat (first|(with_reducible first|exact HB.out|apply Qc|apply Qa|apply Qb)|exact HB.out)) hb);clear HO_19;clear HO145;clear HB;have HO_19:=n0_;have HO145:=n1_;have HO150:=n2_;have HB:=n3_;clear n0_ n1_ n2_ n3_;(try clear hb);(try clear hb2);(try clear hk);(try clear hi);(try clear ho0)));try go_wp2_with (first|(go_at_call 40;(with_reducible refine (impl_BestChoice.calls kj60 _ _ y141 t134 t146 t147 true _ ?side1 ?side2 A72.out).mono ?_);(case side1=>repeat (first|exact (Kd.Qo HO145.out).2.2|(with_reducible refine Kd.Qj ?_ _)|(with_reducible refine Kd.Qk ?_ _)|(with_reducible refine Kd.C_drew ?_)));(case side2=>exact (Kd.Qo HO145.out).2.1);rintro e w76 ⟨v149,rfl,ho0,hb⟩;have n0_:=aM (Kd.N_elder' (by (with_reducible repeat (first|apply Kd.Ql|apply Kd.Qm|apply Kd.N_drew));exact HO_19.out) (Kd.R_base ho0) hb);have n1_:=aM (Kd.V_elder' (by (with_reducible repeat (first|apply Kd.V_alloc|apply Kd.V_drewN|apply Kd.V_drew));exact HO145.out) (Kd.R_base ho0) hb);have n2_:=aM (Kd.R_lower ho0 (Qh (by repeat (first|(with_reducible first|exact HB.out|apply Qc|apply Qa|apply Qb)|exact HB.out))));have n3_:=aM (Qi (by repeat (first|(with_reducible first|exact HB.out|apply Qc|apply Qa|apply Qb)|exact HB.out)) hb);clear HO_19;clear HO145;clear HB;have HO_19:=n0_;have HO145:=n1_;have HO150:=n2_;have HB:=n3_;clear n0_ n1_ n2_ n3_;(try clear hb);(try clear hb2);(try clear hk);(try clear hi);(try clear ho0))))
                  go_ret
                  exact ⟨by first|rfl|(simp [errW_none,errW_some] <;> rfl)|(simp [*,errW_none,errW_some] <;> rfl),by repeat (first|(with_reducible first|exact HB.out|apply Qc|apply Qa|apply Qb)|exact HB.out)⟩
                ·rw [if_neg c74] at H;have c74b0:decide (0≤t137)=false:=decide_eq_false c74;clear c74
                 as_aux_lemma=>
                  obtain rfl:=Option.some.inj H;have q77:((wrap64 (t133+1)):Int)≤((t132.length:Int):Int):=of_decide_eq_true (by first|(with_reducible assumption)|assumption);obtain ⟨i077,hi077,_,hsz77,_⟩:=info_parts info53;have hroom77:t132.length≤co63:=(Kd.Qs HO_19.out).2.1;have hC77:Kd.F k53 _ _ Ao63 t132.length t132:=(Kd.V_at (base:=w.heap.size) (Kd.N_V HO_19.out)).2.2;have ql77:(t133:Int)≤((wrap64 (t133+1)):Int):=of_decide_eq_true (by first|(with_reducible assumption)|assumption);have q077:(0:Int)≤(t133:Int):=of_decide_eq_true (by first|(with_reducible assumption)|assumption);have hcut77:=cut_mid (P:=Try.prog) 48 53 .i64 .i64 Try.underlying48 hi077 1 hsz77 Ao63 t132.length co63 t133 (wrap64 (t133+1)) q077 ql77 q77 hroom77;have hr77:=Kd.F_mid (lo:=(t133:Int).toNat) (hi:=((wrap64 (t133+1)):Int).toNat) (c:=co63) hC77 (by omega) (by omega) hroom77;obtain ⟨A77,hA77⟩:∃ A1,A1=(if co63=(t133:Int).toNat then Ao63 else (Ao63:Option Addr).map (·.add ((t133:Int).toNat * 1))):=⟨_,rfl⟩;obtain ⟨c77,hc77⟩:∃ c1,c1=co63 - (t133:Int).toNat:=⟨_,rfl⟩;have hy77:y141.length=((wrap64 (t133+1)):Int).toNat - (t133:Int).toNat:=(by rw [Ny141.out,aG,aH] <;> omega);rw [show ((t132).take ((wrap64 (t133+1)):Int).toNat).drop (t133:Int).toNat=y141 from Ny141.out.symm] at hr77;replace hr77:Kd.F k53 _ _ A77 y141.length y141:=(by rw [hA77];exact hr77);rw [←hy77,←hA77,←hc77] at hcut77;have HO145:=aM (show Kd.V k53 53 _ w.heap.size _ (.slice A77 y141.length c77) y141 from Kd.V_mk (by rw [hy77,hc77];exact Nat.sub_le_sub_right (Nat.le_trans (by omega) hroom77) _) hr77);have HC145:=aM (show y141.length≤c77 from by rw [hy77,hc77];exact Nat.sub_le_sub_right (Nat.le_trans (by omega) hroom77) _);clear hr77 hC77 hroom77 hi077 hsz77 hc77;have KY77:=aM hy77;have KA77:=aM hA77;clear hy77 hA77;replace q77:=eq_true q77;go_wp2_with (first|(go_at_call 40;(with_reducible refine (impl_BestChoice.calls kj60 _ _ y141 t134 t146 t147 true _ ?side1 ?side2 A72.out).mono ?_);(case side1=>repeat (first|exact (Kd.Qo HO145.out).2.2|(with_reducible refine Kd.Qj ?_ _)|(with_reducible refine Kd.Qk ?_ _)|(with_reducible refine Kd.C_drew ?_)));(case side2=>exact (Kd.Qo HO145.out).2.1);rintro e w78 ⟨v149,rfl,ho0,hb⟩;have n0_:=aM (Kd.N_elder' (by (with_reducible repeat (first|apply Kd.Ql|apply Kd.Qm|apply Kd.N_drew));exact HO_19.out) (Kd.R_base ho0) hb);have n1_:=aM (Kd.V_elder' (by (with_reducible repeat (first|apply Kd.V_alloc|apply Kd.V_drewN|apply Kd.V_drew));exact HO145.out) (Kd.R_base ho0) hb);have n2_:=aM (Kd.R_lower ho0 (Qh (by repeat (first|(with_reducible first|exact HB.out|apply Qc|apply Qa|apply Qb)|exact HB.out))));have n3_:=aM (Qi (by repeat (first|(with_reducible first|exact HB.out|apply Qc|apply Qa|apply Qb)|exact HB.out)) hb);clear HO_19;clear HO145;clear HB;have HO_19:=n0_;have HO145:=n1_;have HO150:=n2_;have HB:=n3_;clear n0_ n1_ n2_ n3_;(try clear hb);(try clear hb2);(try clear hk);(try clear hi);(try clear ho0)))
                  repeat (go_quiet (first|(go_at_call 40;(with_reducible refine (impl_BestChoice.calls kj60 _ _ y141 t134 t146 t147 true _ ?side1 ?side2 A72.out).mono ?_);(case side1=>repeat (first|exact (Kd.Qo HO145.out).2.2|(with_reducible refine Kd.Qj ?_ _)|(with_reducible refine Kd.Qk ?_ _)|(with_reducible refine Kd.C_drew ?_)));(case side2=>exact (Kd.Qo HO145.out).2.1);rintro e w78 ⟨v149,rfl,ho0,hb⟩;have n0_:=aM (Kd.N_elder' (by (with_reducible repeat (first|apply Kd.Ql|apply Kd.Qm|apply Kd.N_drew));exact HO_19.out) (Kd.R_base ho0) hb);have n1_:=aM (Kd.V_elder' (by (with_reducible repeat (first|apply Kd.V_alloc|apply Kd.V_drewN|apply Kd.V_drew));exact HO145.out) (Kd.R_base ho0) hb);have n2_:=aM (Kd.R_lower ho0 (Qh (by repeat (first|(with_reducible first|exact HB.out|apply Qc|apply Qa|apply Qb)|exact HB.out))));have n3_:=aM (Qi (by repeat (first|(with_reducible first|exact HB.out|apply Qc|apply Qa|apply Qb)|exact HB.out)) hb);clear HO_19;clear HO145;clear HB;have HO_19:=n0_;have HO145:=n1_;have HO150:=n2_;have HB:=n3_;clear n0_ n1_ n2_ n3_;(try clear hb);(try clear hb2);(try clear hk);(try clear hi);(try clear ho0)));try go_wp2_with (first|(go_at_call 40;(with_reducible refine (impl_BestChoice.calls kj60 _ _ y141 t134 t146 t147 true _ ?side1 ?side2 A72.out).mono ?_);(case side1=>repeat (first|exact (Kd.Qo HO145.out).2.2|(with_reducible refine Kd.Qj ?_ _)|(with_reducible refine Kd.Qk ?_ _)|(with_reducible refine Kd.C_drew ?_)));(case side2=>exact (Kd.Qo HO145.out).2.1);rintro e w78 ⟨v149,rfl,ho0,hb⟩;have n0_:=aM (Kd.N_elder' (by (with_reducible repeat (first|apply Kd.Ql|apply Kd.Qm|apply Kd.N_drew));exact HO_19.out) (Kd.R_base ho0) hb);have n1_:=aM (Kd.V_elder' (by (with_reducible repeat (first|apply Kd.V_alloc|apply Kd.V_drewN|apply Kd.V_drew));exact HO145.out) (Kd.R_base ho0) hb);have n2_:=aM (Kd.R_lower ho0 (Qh (by repeat (first|(with_reducible first|exact HB.out|apply Qc|apply Qa|apply Qb)|exact HB.out))));have n3_:=aM (Qi (by repeat (first|(with_reducible first|exact HB.out|apply Qc|apply Qa|apply Qb)|exact HB.out)) hb);clear HO_19;clear HO145;clear HB;have HO_19:=n0_;have HO145:=n1_;have HO150:=n2_;have HB:=n3_;clear n0_ n1_ n2_ n3_;(try clear hb);(try clear hb2);(try clear hk);(try clear hi);(try clear ho0))))
                  go_ret
                  exact ⟨by first|rfl|(simp [errW_none,errW_some] <;> rfl)|(simp [*,errW_none,errW_some] <;> rfl),by repeat (first|(with_reducible first|exact HB.out|apply Qc|apply Qa|apply Qb)|exact HB.out)⟩
               ·replace c73:=Bool.eq_false_iff.mpr c73;subst c73;have H1:(some false)=some r:=by rw [if_neg (show ¬ (false=true) by decide)] at H;exact H
                clear H;have H:=H1;clear H1
                as_aux_lemma=>
                 obtain rfl:=Option.some.inj H;have q79:((wrap64 (t133+1)):Int)≤((t132.length:Int):Int):=of_decide_eq_true (by first|(with_reducible assumption)|assumption);obtain ⟨i079,hi079,_,hsz79,_⟩:=info_parts info53;have hroom79:t132.length≤co63:=(Kd.Qs HO_19.out).2.1;have hC79:Kd.F k53 _ _ Ao63 t132.length t132:=(Kd.V_at (base:=w.heap.size) (Kd.N_V HO_19.out)).2.2;have ql79:(t133:Int)≤((wrap64 (t133+1)):Int):=of_decide_eq_true (by first|(with_reducible assumption)|assumption);have q079:(0:Int)≤(t133:Int):=of_decide_eq_true (by first|(with_reducible assumption)|assumption);have hcut79:=cut_mid (P:=Try.prog) 48 53 .i64 .i64 Try.underlying48 hi079 1 hsz79 Ao63 t132.length co63 t133 (wrap64 (t133+1)) q079 ql79 q79 hroom79;have hr79:=Kd.F_mid (lo:=(t133:Int).toNat) (hi:=((wrap64 (t133+1)):Int).toNat) (c:=co63) hC79 (by omega) (by omega) hroom79;obtain ⟨A79,hA79⟩:∃ A1,A1=(if co63=(t133:Int).toNat then Ao63 else (Ao63:Option Addr).map (·.add ((t133:Int).toNat * 1))):=⟨_,rfl⟩;obtain ⟨c79,hc79⟩:∃ c1,c1=co63 - (t133:Int).toNat:=⟨_,rfl⟩;have hy79:y141.length=((wrap64 (t133+1)):Int).toNat - (t133:Int).toNat:=(by rw [Ny141.out,aG,aH] <;> omega);rw [show ((t132).take ((wrap64 (t133+1)):Int).toNat).drop (t133:Int).toNat=y141 from Ny141.out.symm] at hr79;replace hr79:Kd.F k53 _ _ A79 y141.length y141:=(by rw [hA79];exact hr79);rw [←hy79,←hA79,←hc79] at hcut79;have HO145:=aM (show Kd.V k53 53 _ w.heap.size _ (.slice A79 y141.length c79) y141 from Kd.V_mk (by rw [hy79,hc79];exact Nat.sub_le_sub_right (Nat.le_trans (by omega) hroom79) _) hr79);have HC145:=aM (show y141.length≤c79 from by rw [hy79,hc79];exact Nat.sub_le_sub_right (Nat.le_trans (by omega) hroom79) _);clear hr79 hC79 hroom79 hi079 hsz79 hc79;have KY79:=aM hy79;have KA79:=aM hA79;clear hy79 hA79;replace q79:=eq_true q79;go_wp2_with (first|(go_at_call 40;(with_reducible refine (impl_BestChoice.calls kj60 _ _ y141 t134 t146 t147 false _ ?side1 ?side2 A72.out).mono ?_);(case side1=>repeat (first|exact (Kd.Qo HO145.out).2.2|(with_reducible refine Kd.Qj ?_ _)|(with_reducible refine Kd.Qk ?_ _)|(with_reducible refine Kd.C_drew ?_)));(case side2=>exact (Kd.Qo HO145.out).2.1);rintro e w80 ⟨v149,rfl,ho0,hb⟩;have n0_:=aM (Kd.N_elder' (by (with_reducible repeat (first|apply Kd.Ql|apply Kd.Qm|apply Kd.N_drew));exact HO_19.out) (Kd.R_base ho0) hb);have n1_:=aM (Kd.V_elder' (by (with_reducible repeat (first|apply Kd.V_alloc|apply Kd.V_drewN|apply Kd.V_drew));exact HO145.out) (Kd.R_base ho0) hb);have n2_:=aM (Kd.R_lower ho0 (Qh (by repeat (first|(with_reducible first|exact HB.out|apply Qc|apply Qa|apply Qb)|exact HB.out))));have n3_:=aM (Qi (by repeat (first|(with_reducible first|exact HB.out|apply Qc|apply Qa|apply Qb)|exact HB.out)) hb);clear HO_19;clear HO145;clear HB;have HO_19:=n0_;have HO145:=n1_;have HO150:=n2_;have HB:=n3_;clear n0_ n1_ n2_ n3_;(try clear hb);(try clear hb2);(try clear hk);(try clear hi);(try clear ho0)))
                 repeat (go_quiet (first|(go_at_call 40;(with_reducible refine (impl_BestChoice.calls kj60 _ _ y141 t134 t146 t147 false _ ?side1 ?side2 A72.out).mono ?_);(case side1=>repeat (first|exact (Kd.Qo HO145.out).2.2|(with_reducible refine Kd.Qj ?_ _)|(with_reducible refine Kd.Qk ?_ _)|(with_reducible refine Kd.C_drew ?_)));(case side2=>exact (Kd.Qo HO145.out).2.1);rintro e w80 ⟨v149,rfl,ho0,hb⟩;have n0_:=aM (Kd.N_elder' (by (with_reducible repeat (first|apply Kd.Ql|apply Kd.Qm|apply Kd.N_drew));exact HO_19.out) (Kd.R_base ho0) hb);have n1_:=aM (Kd.V_elder' (by (with_reducible repeat (first|apply Kd.V_alloc|apply Kd.V_drewN|apply Kd.V_drew));exact HO145.out) (Kd.R_base ho0) hb);have n2_:=aM (Kd.R_lower ho0 (Qh (by repeat (first|(with_reducible first|exact HB.out|apply Qc|apply Qa|apply Qb)|exact HB.out))));have n3_:=aM (Qi (by repeat (first|(with_reducible first|exact HB.out|apply Qc|apply Qa|apply Qb)|exact HB.out)) hb);clear HO_19;clear HO145;clear HB;have HO_19:=n0_;have HO145:=n1_;have HO150:=n2_;have HB:=n3_;clear n0_ n1_ n2_ n3_;(try clear hb);(try clear hb2);(try clear hk);(try clear hi);(try clear ho0)));try go_wp2_with (first|(go_at_call 40;(with_reducible refine (impl_BestChoice.calls kj60 _ _ y141 t134 t146 t147 false _ ?side1 ?side2 A72.out).mono ?_);(case side1=>repeat (first|exact (Kd.Qo HO145.out).2.2|(with_reducible refine Kd.Qj ?_ _)|(with_reducible refine Kd.Qk ?_ _)|(with_reducible refine Kd.C_drew ?_)));(case side2=>exact (Kd.Qo HO145.out).2.1);rintro e w80 ⟨v149,rfl,ho0,hb⟩;have n0_:=aM (Kd.N_elder' (by (with_reducible repeat (first|apply Kd.Ql|apply Kd.Qm|apply Kd.N_drew));exact HO_19.out) (Kd.R_base ho0) hb);have n1_:=aM (Kd.V_elder' (by (with_reducible repeat (first|apply Kd.V_alloc|apply Kd.V_drewN|apply Kd.V_drew));exact HO145.out) (Kd.R_base ho0) hb);have n2_:=aM (Kd.R_lower ho0 (Qh (by repeat (first|(with_reducible first|exact HB.out|apply Qc|apply Qa|apply Qb)|exact HB.out))));have n3_:=aM (Qi (by repeat (first|(with_reducible first|exact HB.out|apply Qc|apply Qa|apply Qb)|exact HB.out)) hb);clear HO_19;clear HO145;clear HB;have HO_19:=n0_;have HO145:=n1_;have HO150:=n2_;have HB:=n3_;clear n0_ n1_ n2_ n3_;(try clear hb);(try clear hb2);(try clear hk);(try clear hi);(try clear ho0))))
                 go_ret
                 exact ⟨by first|rfl|(simp [errW_none,errW_some] <;> rfl)|(simp [*,errW_none,errW_some] <;> rfl),by repeat (first|(with_reducible first|exact HB.out|apply Qc|apply Qa|apply Qb)|exact HB.out)⟩
              ·rw [if_neg c71] at H;exact absurd H (by simp)
             ·rw [if_neg c70] at H;exact absurd H (by simp)
            ·rw [if_neg c69] at H;exact absurd H (by simp)
           ·replace c68:=Bool.eq_false_iff.mpr c68;subst c68;have H1:(some true)=some r:=by rw [if_neg (show ¬ (false=true) by decide)] at H;exact H
            clear H;have H:=H1;clear H1
            as_aux_lemma=>
             obtain rfl:=Option.some.inj H;go_wp2
             repeat (go_quiet (fail);try go_wp2)
             go_ret
             exact ⟨by first|rfl|(simp [errW_none,errW_some] <;> rfl)|(simp [*,errW_none,errW_some] <;> rfl),by repeat (first|(with_reducible first|exact HB.out|apply Qc|apply Qa|apply Qb)|exact HB.out)⟩

/-- THE ONE PURE STATEMENT of laws_FnTables:yours. -/
def laws_FnTables.Pure:Prop:=∀ (l0:List Int) (l1:List Int),l0.length≤maxLen→l0.length * 1≤140737488351232→(∀ x ∈ l0,(Lit.int .u8 x).wf=true)→l1.length≤maxLen→l1.length * 1≤140737488351232→(∀ x ∈ l1,(Lit.int .u8 x).wf=true)→∃ k,laws_FnTables.f k l0 l1=some true
theorem laws_FnTables.walk (P:laws_FnTables.Pure) (a0:Option Addr) (len0 cap0:Nat) (z0:List Int) (a1:Option Addr) (len1 cap1:Nat) (z1:List Int) (w:World) (w0:(a0=none∧len0=0∧cap0=0∧z0=[])∨∃ x,a0=some x∧len0≤cap0∧cap0≤maxLen∧z0.length=cap0∧(∀ i,i<z0.length→w.cell? (x.add i)=some (.int .u8 (z0.getD i 0)))∧∀ n ∈ z0,(Lit.int .u8 n).wf=true) (y0:len0 * 1≤140737488351232) (w1:(a1=none∧len1=0∧cap1=0∧z1=[])∨∃ x,a1=some x∧len1≤cap1∧cap1≤maxLen∧z1.length=cap1∧(∀ i,i<z1.length→w.cell? (x.add i)=some (.int .u8 (z1.getD i 0)))∧∀ n ∈ z1,(Lit.int .u8 n).wf=true) (y1:len1 * 1≤140737488351232) :
    Calls Try.prog 5 #[.slice a0 len0 cap0,.slice a1 len1 cap1] w fun e w'=>e= .returned (.bool true)∧Below w.heap.size w w':=by
  obtain ⟨l0,rfl,hr0,hm0,hw0,hc0⟩:=ReadsInt.ofRowC w0;obtain ⟨l1,rfl,hr1,hm1,hw1,hc1⟩:=ReadsInt.ofRowC w1;obtain ⟨k,h⟩:=P l0 l1 hm0 y0 hw0 hm1 y1 hw1;refine (laws_FnTables.calls k _ _ l0 _ _ l1 true w (Kd.C_of_reads (d:=(0:Int)) (h1:=fun _=>rfl) hr0) hc0 (Kd.C_of_reads (d:=(0:Int)) (h1:=fun _=>rfl) hr1) hc1 h).mono ?_
  rintro e w' ⟨rfl,hd⟩
  exact ⟨rfl,hd⟩
end Go.Proofs.Ytpagpbamdpllnaa.Print
namespace Go.Proofs.Ytpagpbamdpllnaa.Pure
open Go.RowKit Go.Proofs.Ytpagpbamdpllnaa.Print Go.Proofs.YtpagpbamdpllnaaW.PrintWords Go.Proofs.YtpagpbamdpllnaaW.PrintLast Go.Proofs.YtpagpbamdpllnaaW.PrintMore

theorem Ev.of_eq {α : Type} {g : Nat → Option α} {r : α} (h : ∀ k, g k = some r) : Ev g r := ⟨0, fun k _ => h k⟩
theorem Ev.bind0 {α β : Type} {o : Option α} {f : Nat → α → Option β} {a : α} {r : β} (h : o = some a) (k : Ev (fun n => f n a) r) : Ev (fun n => o.bind (f n)) r := by
  subst h; exact k
theorem Ev.pos {α : Type} {c : Prop} [Decidable c] {g f : Nat → Option α} {r : α} (h : c) (k : Ev g r) : Ev (fun n => if c then g n else f n) r := by
  simpa only [if_pos h] using k
theorem Ev.neg {α : Type} {c : Prop} [Decidable c] {g f : Nat → Option α} {r : α} (h : ¬ c) (k : Ev f r) : Ev (fun n => if c then g n else f n) r := by
  simpa only [if_neg h] using k
theorem Ev.ite {α : Type} {c : Prop} [Decidable c] {g f : Nat → Option α} {r : α} (h : c → Ev g r) (k : ¬ c → Ev f r) : Ev (fun n => if c then g n else f n) r := by
  by_cases hc : c
  · exact Ev.pos hc (h hc)
  · exact Ev.neg hc (k hc)
theorem Ev.step0 {α : Type} {g f : Nat → Option α} {r : α} (k : Ev f r) (h : ∀ k, g (k + 1) = f k) : Ev g r := Ev.step h k
theorem Ev.to {α : Type} {g : Nat → Option α} {r s : α} (k : Ev g r) (h : r = s) : Ev g s := h ▸ k
theorem ev_up {β : Type} (n : Nat) (g : Nat → Nat → Option β) (r : β) (I : Nat → Prop) (h0 : I 0)
    (hend : I n → Ev (fun k => g k n) r) (hstep : ∀ i, i < n → I i → (I (i + 1) → Ev (fun k => g k (i + 1)) r) → Ev (fun k => g k i) r) : Ev (fun k => g k 0) r := by
  have h : ∀ d i, i + d = n → I i → Ev (fun k => g k i) r := by
    intro d
    induction d with
    | zero => intro i hi hI; obtain rfl : i = n := by omega
              exact hend hI
    | succ d ih => intro i hi hI; exact hstep i (by omega) hI fun hI' => ih (i + 1) (by omega) hI'
  exact h n 0 (by omega) h0
theorem w64 {x : Int} (h1 : -9223372036854775808 ≤ x) (h2 : x < 9223372036854775808) : wrap64 x = x := by unfold wrap64; omega
theorem rd_nat (l : List Int) (i : Nat) (h : i < l.length) : rd l (i : Int) = l[i] := by simp [rd, h]
theorem toNat_nat (i : Nat) : ((i : Int)).toNat = i := Int.toNat_natCast i
theorem lt_len {α : Type} {l : List α} {i : Nat} (h : i < l.length) : (i : Int) < (l.length : Int) := by omega
def allIn (l : List Int) (lo hi : Int) : Bool := l.all fun x => decide (lo ≤ x) && decide (x ≤ hi)
theorem allIn_iff (l : List Int) (lo hi : Int) : allIn l lo hi = true ↔ ∀ x ∈ l, lo ≤ x ∧ x ≤ hi := by
  simp [allIn, List.all_eq_true]
theorem all_take_false {α : Type} (l : List α) (p : α → Bool) (i : Nat) (h : i < l.length) (hp : p l[i] = false) : l.all p = false := by
  rw [List.all_eq_false]; exact ⟨l[i], List.getElem_mem h, by simp [hp]⟩
theorem all_take_succ {α : Type} (l : List α) (p : α → Bool) (i : Nat) (h : i < l.length) (ht : (l.take i).all p = true) (hp : p l[i] = true) : (l.take (i + 1)).all p = true := by
  rw [List.take_succ_eq_append_getElem h, List.all_append, ht]; simp [hp]
theorem Ev.succ {α : Type} {g : Nat → Option α} {r : α} (h : Ev (fun k => g (k + 1)) r) : Ev g r := Ev.step (fun _ => rfl) h
theorem exists_nat_of_nonneg {x : Int} (h : 0 ≤ x) : ∃ n : Nat, x = n := ⟨x.toNat, by omega⟩

def bytesOk (l : List Int) : Prop := ∀ x ∈ l, 0 ≤ x ∧ x ≤ 255
theorem wf_u8 {x : Int} (h : (Lit.int .u8 x).wf = true) : 0 ≤ x ∧ x ≤ 255 := by
  have h' : decide (IntKind.u8.min ≤ x) && decide (x ≤ IntKind.u8.max) := h
  simp only [Bool.and_eq_true, decide_eq_true_eq] at h'
  have e1 : IntKind.u8.min = 0 := by decide
  have e2 : IntKind.u8.max = 255 := by decide
  omega
theorem bytesOk_of (l : List Int) (h : ∀ x ∈ l, (Lit.int .u8 x).wf = true) : bytesOk l := fun x hx => wf_u8 (h x hx)
theorem u64_range (x : Int) : 0 ≤ IntKind.u64.wrap x ∧ IntKind.u64.wrap x < 18446744073709551616 := by
  have e : IntKind.u64.wrap x = x % 18446744073709551616 := by simp [IntKind.wrap, IntKind.bits, IntKind.signed]
  rw [e]; omega
theorem and_255 (x : Int) (h0 : 0 ≤ x) (h1 : x < 18446744073709551616) : 0 ≤ Go.bits .and .u64 x 255 ∧ Go.bits .and .u64 x 255 ≤ 255 := by
  obtain ⟨n, rfl⟩ := exists_nat_of_nonneg h0
  have e : Go.bits .and .u64 (n : Int) ((255 : Nat) : Int) = ((n &&& 255 : Nat) : Int) := u64_and_nat n 255 (by omega) (by omega)
  have h2 : n &&& 255 ≤ 255 := Nat.and_le_right
  have e' : Go.bits .and .u64 (n : Int) 255 = ((n &&& 255 : Nat) : Int) := e
  rw [e']; omega
theorem rd_mem_or (l : List Int) (i : Int) (h0 : 0 ≤ i) (h : i < l.length) : rd l i ∈ l := by
  obtain ⟨n, rfl⟩ := exists_nat_of_nonneg h0
  rw [rd_nat l n (by omega)]; exact List.getElem_mem _

theorem cur_next (l : List Int) (a s : Int) (hl : bytesOk l) (ha : 0 ≤ a ∧ a ≤ 4611686018427387904) :
    ∃ b s', spec_l1Cur_next.f l a s = some (b, a + 1, s') ∧ 0 ≤ b ∧ b ≤ 255 := by
  have hmask : ∀ y : Int, 0 ≤ wrap64 (Go.bits .and .u64 ((IntKind.u64.wrap y) / 1099511627776) 255) ∧ wrap64 (Go.bits .and .u64 ((IntKind.u64.wrap y) / 1099511627776) 255) ≤ 255 := fun y => by
    have h1 := u64_range y
    have h2 := and_255 ((IntKind.u64.wrap y) / 1099511627776) (by omega) (by omega)
    rw [w64 (by omega) (by omega)]; exact h2
  unfold spec_l1Cur_next.f
  rw [w64 (x := a + 1) (by omega) (by omega)]
  by_cases h1 : a < (l.length : Int)
  · have hb := hl _ (rd_mem_or l a ha.1 h1)
    rw [if_pos h1, if_pos ha.1]
    by_cases h2 : a + 1 ≤ (l.length : Int)
    · rw [if_pos h2]; exact ⟨_, _, rfl, by rw [w64 (by omega) (by omega)]; exact hb⟩
    · rw [if_neg h2]; exact ⟨_, _, rfl, hmask _⟩
  · rw [if_neg h1]
    by_cases h2 : a + 1 ≤ (l.length : Int)
    · rw [if_pos h2]; exact ⟨_, _, rfl, by omega⟩
    · rw [if_neg h2]; exact ⟨_, _, rfl, hmask _⟩

theorem cur_pick (l : List Int) (a s n : Int) (hl : bytesOk l) (ha : 0 ≤ a ∧ a ≤ 4611686018427387900) :
    ∃ r a' s', spec_l1Cur_pick.f l a s n = some (r, a', s') ∧ 0 ≤ r ∧ (r < n ∨ n ≤ 1 ∧ r = 0) ∧ a ≤ a' ∧ a' ≤ a + 2 := by
  unfold spec_l1Cur_pick.f
  by_cases h : n ≤ 1
  · rw [if_pos h]; exact ⟨0, a, s, rfl, by omega, .inr ⟨h, rfl⟩, by omega, by omega⟩
  · rw [if_neg h]
    obtain ⟨b, s1, e1, hb⟩ := cur_next l a s hl (by omega)
    rw [e1]; simp only [Option.bind_some]
    by_cases h2 : n > 200
    · rw [if_pos h2]
      obtain ⟨c, s2, e2, hc⟩ := cur_next l (a + 1) s1 hl (by omega)
      rw [e2]; simp only [Option.bind_some]; rw [if_neg (by omega), w64 (x := b * 256) (by omega) (by omega), w64 (by omega) (by omega)]
      exact ⟨_, _, _, rfl, Int.tmod_nonneg _ (by omega), .inl (Int.tmod_lt_of_pos _ (by omega)), by omega, by omega⟩
    · rw [if_neg h2, if_neg (by omega)]
      exact ⟨_, _, _, rfl, Int.tmod_nonneg _ (by omega), .inl (Int.tmod_lt_of_pos _ (by omega)), by omega, by omega⟩

theorem cur_one (l : List Int) (a s n : Int) (hl : bytesOk l) (ha : 0 ≤ a ∧ a ≤ 4611686018427387900) :
    ∃ r a' s', spec_l1Cur_one.f l a s n = some (r, a', s') ∧ a ≤ a' ∧ a' ≤ a + 2 := by
  unfold spec_l1Cur_one.f
  obtain ⟨r, a', s', e, h0, h1, h2, h3⟩ := cur_pick l a s n hl ha
  rw [e]; exact ⟨_, _, _, rfl, h2, h3⟩

theorem cur_among (l : List Int) (a s : Int) (l1 : List Int) (hl : bytesOk l) (ha : 0 ≤ a ∧ a ≤ 4611686018427387900) (h1 : 0 < l1.length) :
    ∃ r a' s', spec_l1Cur_among.f l a s l1 = some (r, a', s') ∧ r ∈ l1 ∧ a ≤ a' ∧ a' ≤ a + 2 := by
  unfold spec_l1Cur_among.f
  obtain ⟨r, a', s', e, h2, h3, h4, h5⟩ := cur_pick l a s (l1.length : Int) hl ha
  have h6 : r < (l1.length : Int) := by omega
  rw [e]; simp only [Option.bind_some]; rw [if_pos h2, if_pos h6]
  exact ⟨_, _, _, rfl, rd_mem_or l1 r h2 h6, h4, h5⟩

theorem spec_l1In_eq (n lo hi : Int) : spec_l1In.f n lo hi = some (decide (lo ≤ n) && decide (n ≤ hi)) := by
  unfold spec_l1In.f
  by_cases h : n ≥ lo
  · rw [if_pos h, decide_eq_true (show lo ≤ n from h)]; simp
  · rw [if_neg h, decide_eq_false (show ¬ lo ≤ n from h)]; simp

theorem impl_within_eq (n lo hi : Int) : impl_within.f n lo hi = some (decide (lo ≤ n) && decide (n ≤ hi)) := by
  unfold impl_within.f
  by_cases h : n ≥ lo
  · rw [if_pos h, decide_eq_true (show lo ≤ n from h)]; simp
  · rw [if_neg h, decide_eq_false (show ¬ lo ≤ n from h)]; simp

theorem spec_l1All_ev (l : List Int) (lo hi : Int) (hl : l.length < 4611686018427387904) : Ev (fun k => spec_l1All.f k l lo hi) (allIn l lo hi) := by
  unfold spec_l1All.f
  refine ev_up l.length (fun k i => spec_l1All.l0 k lo hi l (l.length : Int) (i : Int)) _ (fun i => allIn (l.take i) lo hi = true) (by simp [allIn]) ?_ ?_
  · intro hI
    refine Ev.step0 (Ev.of_eq fun _ => rfl) fun k => ?_
    simp only [spec_l1All.l0]; rw [if_neg (by omega)]
    rw [List.take_length] at hI; rw [hI]
  · intro i hi' hI hn
    cases hb : (decide (lo ≤ l[i]) && decide (l[i] ≤ hi)) with
    | true =>
      refine Ev.step0 (hn (all_take_succ l _ i hi' hI hb)) fun k => ?_
      simp only [spec_l1All.l0]; rw [if_pos (lt_len hi'), if_pos (by omega), if_pos (lt_len hi'), rd_nat l i hi', spec_l1In_eq, hb]
      simp only [Option.bind_some, if_true]; rw [w64 (by omega) (by omega)]; rfl
    | false =>
      refine Ev.step0 (Ev.of_eq fun _ => rfl) fun k => ?_
      simp only [spec_l1All.l0]; rw [if_pos (lt_len hi'), if_pos (by omega), if_pos (lt_len hi'), rd_nat l i hi', spec_l1In_eq, hb]
      simp only [Option.bind_some]; rw [if_neg (by decide)]
      rw [show allIn l lo hi = false from all_take_false l _ i hi' hb]

theorem impl_allWithin_ev (l : List Int) (lo hi : Int) (hl : l.length < 4611686018427387904) : Ev (fun k => impl_allWithin.f k l lo hi) (allIn l lo hi) := by
  unfold impl_allWithin.f sl1_ContainsFunc.f sl3_IndexFunc.f
  have key : ∃ j : Int, decide (j ≥ 0) = !(allIn l lo hi) ∧ Ev (fun k => sl3_IndexFunc.l0 k l (l.length : Int) 0 lo hi) j := by
    have hc : ∀ x : Int, impl_allWithin_1.f x lo hi = some (!(decide (lo ≤ x) && decide (x ≤ hi))) := fun x => by
      unfold impl_allWithin_1.f; rw [impl_within_eq]; rfl
    cases ha : allIn l lo hi with
    | true =>
      refine ⟨-1, by decide, ?_⟩
      refine ev_up l.length (fun k i => sl3_IndexFunc.l0 k l (l.length : Int) (i : Int) lo hi) _ (fun _ => True) trivial ?_ ?_
      · intro _
        refine Ev.step0 (Ev.of_eq fun _ => rfl) fun k => ?_
        simp only [sl3_IndexFunc.l0]; rw [if_neg (by omega)]
      · intro i hi' _ hn
        have hb := (allIn_iff l lo hi).mp ha l[i] (List.getElem_mem hi')
        refine Ev.step0 (hn trivial) fun k => ?_
        simp only [sl3_IndexFunc.l0]; rw [if_pos (lt_len hi'), if_pos (by omega), if_pos (lt_len hi'), rd_nat l i hi', hc, decide_eq_true hb.1, decide_eq_true hb.2]
        simp only [Option.bind_some]; rw [if_neg (by decide), w64 (by omega) (by omega)]; rfl
    | false =>
      have : ∃ i : Nat, i < l.length ∧ Ev (fun k => sl3_IndexFunc.l0 k l (l.length : Int) 0 lo hi) (i : Int) := by
        obtain ⟨i, hi', hp, hlt⟩ : ∃ i : Nat, ∃ h : i < l.length, (decide (lo ≤ l[i]) && decide (l[i] ≤ hi)) = false ∧ ∀ j, ∀ hj : j < i, (decide (lo ≤ l[j]) && decide (l[j] ≤ hi)) = true := by
          have h1 : ∃ i : Nat, ∃ h : i < l.length, (decide (lo ≤ l[i]) && decide (l[i] ≤ hi)) = false := by
            unfold allIn at ha
            rw [List.all_eq_false] at ha
            obtain ⟨x, hx, hp⟩ := ha
            obtain ⟨i, hi', rfl⟩ := List.getElem_of_mem hx
            exact ⟨i, hi', by simpa using hp⟩
          obtain ⟨m, hm, hmin⟩ := exists_least h1
          obtain ⟨hm1, hm2⟩ := hm
          refine ⟨m, hm1, hm2, fun j hj => ?_⟩
          cases hq : (decide (lo ≤ l[j]) && decide (l[j] ≤ hi)) with
          | true => rfl
          | false => have := hmin j ⟨by omega, hq⟩; omega
        refine ⟨i, hi', ?_⟩
        refine ev_up i (fun k i => sl3_IndexFunc.l0 k l (l.length : Int) (i : Int) lo hi) _ (fun _ => True) trivial ?_ ?_
        · intro _
          refine Ev.step0 (Ev.of_eq fun _ => rfl) fun k => ?_
          simp only [sl3_IndexFunc.l0]; rw [if_pos (lt_len hi'), if_pos (by omega), if_pos (lt_len hi'), rd_nat l i hi', hc, hp]
          simp
        · intro j hj _ hn
          have hj' : j < l.length := by omega
          refine Ev.step0 (hn trivial) fun k => ?_
          simp only [sl3_IndexFunc.l0]; rw [if_pos (lt_len hj'), if_pos (by omega), if_pos (lt_len hj'), rd_nat l j hj', hc, hlt j hj]
          simp only [Option.bind_some]; rw [if_neg (by decide), w64 (by omega) (by omega)]; rfl
      obtain ⟨i, _, hi2⟩ := this
      exact ⟨i, by simp, hi2⟩
  obtain ⟨j, hj, hev⟩ := key
  refine Ev.to (Ev.bind (Ev.bind hev (Ev.now _)) (Ev.now _)) ?_
  rw [hj]; simp

def lowNum (a b : Int) : Int := if b < 0 then Int.tdiv (-a) (Int.gcd a b) else Int.tdiv a (Int.gcd a b)
def lowDen (a b : Int) : Int := if b < 0 then Int.tdiv (-b) (Int.gcd a b) else Int.tdiv b (Int.gcd a b)
def goodFrac (a b : Int) : Bool := decide (-1000000000 ≤ a) && decide (a ≤ 1000000000) && (decide (1 ≤ b) && decide (b ≤ 1000000000)) && decide (Int.gcd a b = 1)

theorem mx_max (a b : Int) : mx a b = max a b := by unfold mx; split <;> omega
theorem mn_min (a b : Int) : mn a b = min a b := by unfold mn; split <;> omega
theorem w64n {i n : Nat} (h : i < n) (hn : n ≤ 4611686018427387904) : wrap64 ((i : Int) + 1) = ((i + 1 : Nat) : Int) := by rw [w64 (by omega) (by omega)]; rfl
theorem ev_indexFunc {α : Type} (l : List α) (rdx : Int → α) (hr : ∀ (i : Nat) (h : i < l.length), rdx (i : Int) = l[i]) (c : Nat → α → Option Bool) (p : α → Bool)
    (hc : ∀ x ∈ l, Ev (fun k => c k x) (p x)) (g : Nat → Int → Option Int)
    (hg : ∀ k i, g (k + 1) i = if i < (l.length : Int) then (if 0 ≤ i then (if i < (l.length : Int) then ((c k (rdx i)).bind fun t => if t = true then some i else g k (wrap64 (i + 1))) else none) else none) else some (-1))
    (hl : l.length ≤ 4611686018427387904) : ∃ j : Int, decide (j ≥ 0) = l.any p ∧ Ev (fun k => g k 0) j := by
  have gen : ∀ (d i : Nat), i + d = l.length → ∃ j : Int, decide (j ≥ 0) = (l.drop i).any p ∧ Ev (fun k => g k (i : Int)) j := by
    intro d
    induction d with
    | zero =>
      intro i hi
      refine ⟨-1, by rw [List.drop_of_length_le (by omega)]; rfl, Ev.step0 (Ev.of_eq fun _ => rfl) fun k => ?_⟩
      rw [hg, if_neg (by omega)]
    | succ d ih =>
      intro i hi
      have hi' : i < l.length := by omega
      have hd : (l.drop i).any p = (p l[i] || (l.drop (i + 1)).any p) := by rw [List.drop_eq_getElem_cons hi', List.any_cons]
      have hcx := hc l[i] (List.getElem_mem hi')
      cases hp : p l[i] with
      | true =>
        refine ⟨i, by rw [hd, hp]; simp, Ev.step (fun k => hg k _) (Ev.pos (by omega) (Ev.pos (by omega) (Ev.pos (by omega) ?_)))⟩
        rw [hr i hi']
        exact Ev.bind hcx (Ev.pos hp (Ev.now _))
      | false =>
        obtain ⟨j, hj, hev⟩ := ih (i + 1) (by omega)
        refine ⟨j, by rw [hd, hp, hj]; rfl, Ev.step (fun k => hg k _) (Ev.pos (by omega) (Ev.pos (by omega) (Ev.pos (by omega) ?_)))⟩
        rw [hr i hi', w64 (by omega) (by omega)]
        exact Ev.bind hcx (Ev.neg (by rw [hp]; simp) hev)
  have := gen l.length 0 (by omega)
  simpa using this
theorem any_not_all {α : Type} (l : List α) (p : α → Bool) : l.any (fun x => !p x) = !(l.all p) := by
  induction l with
  | nil => rfl
  | cons a l ih => simp [ih]
def wayOf (a b c d : Int) : Int := if a = c then ((b - d).natAbs : Int) else 3 * ((a - c).natAbs : Int) + (if 40 - (b + d) < b + d then 40 - (b + d) else b + d)
def spotOk (a b : Int) : Bool := (decide (0 ≤ a) && decide (a ≤ 9)) && (decide (0 ≤ b) && decide (b ≤ 20))

theorem laws_sameInts_ev (a b : List Int) (hl : a.length ≤ 4611686018427387904) : Ev (fun k => laws_sameInts.f k a b) (decide (a = b)) := by
  unfold laws_sameInts.f
  refine Ev.ite (fun h => ?_) (fun h => ?_)
  · have hlen : a.length = b.length := by omega
    have gen : ∀ (d i : Nat), i + d = a.length → Ev (fun k => laws_sameInts.l0 k a b (a.length : Int) (i : Int)) (decide (a.drop i = b.drop i)) := by
      intro d
      induction d with
      | zero =>
        intro i hi
        rw [List.drop_of_length_le (by omega), List.drop_of_length_le (by omega)]
        refine Ev.succ ?_
        simp only [laws_sameInts.l0]; exact Ev.neg (by omega) (by simpa using Ev.now true)
      | succ d ih =>
        intro i hi
        have hi' : i < a.length := by omega
        have hi2 : i < b.length := by omega
        rw [List.drop_eq_getElem_cons hi', List.drop_eq_getElem_cons hi2]
        refine Ev.succ ?_
        simp only [laws_sameInts.l0]
        refine Ev.pos (by omega) (Ev.pos (by omega) (Ev.pos (by omega) (Ev.pos (by omega) ?_)))
        rw [rd_nat a i hi', rd_nat b i hi2, w64n hi' (by omega)]
        refine Ev.ite (fun h => ?_) (fun h => ?_)
        · have e : decide (a[i] :: a.drop (i + 1) = b[i] :: b.drop (i + 1)) = decide (a.drop (i + 1) = b.drop (i + 1)) := by
            rw [decide_eq_decide, h]; exact ⟨fun h => (List.cons.inj h).2, fun h => by rw [h]⟩
          rw [e]; exact ih (i + 1) (by omega)
        · have e : decide (a[i] :: a.drop (i + 1) = b[i] :: b.drop (i + 1)) = false := by
            rw [decide_eq_false_iff_not]; intro h2; injection h2 with h3; exact h h3
          rw [e]; exact Ev.now _
    simpa using gen a.length 0 (by omega)
  · have e : decide (a = b) = false := by rw [decide_eq_false_iff_not]; rintro rfl; exact h rfl
    rw [e]; exact Ev.now _
theorem laws_same_ev (a : List Int) (hl : a.length ≤ 4611686018427387904) : Ev (fun k => laws_sameInts.f k a a) true := Ev.to (laws_sameInts_ev a a hl) (by simp)
end Go.Proofs.Ytpagpbamdpllnaa.Pure
namespace Go.Proofs.Ytpagpbamdpllnaa.Print
open Go.RowKit Go.Proofs.YtpagpbamdpllnaaW.PrintWords Go.Proofs.YtpagpbamdpllnaaW.PrintLast Go.Proofs.YtpagpbamdpllnaaW.PrintMore
attribute [local go_sem] max2_int min2_int max_two min_two max_three min_three max_four min_four

mutual
def impl_GainsOf.j0:Nat→Int→Int→Int→Int→Bool→Option (List Int×Bool)
  |0,_,_,_,_,_=>none
  |k+1,x0,x1,x2,x3,x23=>if x23=true then (some (([]:List Int),false)) else (impl_GainsOf.l0 k x0 x1 x2 x3 1 ([]:List Int))
def impl_GainsOf.l0:Nat→Int→Int→Int→Int→Int→List Int→Option (List Int×Bool)
  |0,_,_,_,_,_,_=>none
  |k+1,x0,x1,x2,x3,x11,x111000=>if x11≤6 then (if x11=0 then (none) else (if x111000.length<17592186044416 then (impl_GainsOf.l0 k x0 x1 x2 x3 (wrap64 (x11+1)) (x111000 ++ [wrap64 ((wrap64 (x2 * x0)) - (wrap64 (Int.tdiv (wrap64 ((wrap64 ((wrap64 (x3 * x1))+x11)) - 1)) x11)))])) else (none))) else ((impl_isOffer.f k x111000).bind fun t114=>(if t114=true then (some (x111000,true)) else (some (([]:List Int),false))))
end
def impl_GainsOf.f (k:Nat) (a0:Int) (a1:Int) (a2:Int) (a3:Int):Option (List Int×Bool):=(impl_allWithin.f k (([a0,a1]:List Int)) 0 100).bind fun t105=>(if t105=true then ((impl_allWithin.f k (([a2,a3]:List Int)) 0 10).bind fun t109=>(impl_GainsOf.j0 k a0 a1 a2 a3 (!t109))) else (impl_GainsOf.j0 k a0 a1 a2 a3 true))
def impl_GainsOf.T7:Bool×List (List Nat×List Nat):=(true,[([],[]),([0],[0]),([],[]),([],[]),([2,3],[2,3]),([],[]),([],[]),([5,6],[5,6]),([],[]),([7,8],[7,8]),([9],[9]),([],[]),([10,11],[10,11]),([4,12],[4,12]),([13],[13]),([1,14],[1,14]),([0,1,2,3,4,5,6,7,8,9,10,11,12,13,14,15],[]),([16,15,15,0,1,2,3,4,5,6,7,8,9,10,11,12,13,14,15],[15,16])])
def impl_GainsOf.B7:List Nat:=[0,1,0,0,12,0,0,96,0,480,992,0,4064,8188,16380,32767,65535,131071]
theorem impl_GainsOf.tab7:rtab .any (opsOf Try.f54 7)=impl_GainsOf.T7:=by kernel_rfl
theorem impl_GainsOf.bits7:waitsOk impl_GainsOf.T7.2 impl_GainsOf.B7=true:=by kernel_rfl
set_option maxHeartbeats 8000000 in
set_option maxRecDepth 100000 in
theorem impl_GainsOf.calls (k:Nat) (a0:Int) (a1:Int) (a2:Int) (a3:Int) (r1:List Int) (r2:Bool) (w:World) (h:impl_GainsOf.f k a0 a1 a2 a3=some (r1,r2)) :
    Calls Try.prog 54 #[.int .i64 a0,.int .i64 a1,.int .i64 a2,.int .i64 a3] w fun e w'=>∃ v0_:Value,e= .returned (.tuple #[.agg #[v0_],.bool r2])∧Kd.R (Kd.int .i64) 3 w' w.heap.size (fun _=>True) v0_ r1∧Below w.heap.size w w':=by
  have hu53:=Try.underlying53;have HB:=aM (Below.refl w.heap.size w);have H:((impl_allWithin.f k (([a0,a1]:List Int)) 0 100).bind fun t105=>(if t105=true then ((impl_allWithin.f k (([a2,a3]:List Int)) 0 10).bind fun t109=>(impl_GainsOf.j0 k a0 a1 a2 a3 (!t109))) else (impl_GainsOf.j0 k a0 a1 a2 a3 true)))=some (r1,r2):=h;clear h;have HC5:=aM H;clear H;go_enter Try.func54,Try.ntmps54
  go_upto_region 1 with (first|((with_reducible refine gate_dst (N:=8) rfl ?_);(try (refine gate_guard (by rfl) ?_;dsimp only));refine box_event ?hg (N:=8) ?hd (cs:=#[.slice none 0 0]) (t:=53) ?hr ?_;(case hd=>rfl);(case hg=>rfl);(case hr=>first|(go_simp;done)|(go_simp;rfl));intro gb101 hg w6 hbox hb;have n0_:=aM (Qi (by repeat (first|(with_reducible first|exact HB.out|apply Qc|apply Qa|apply Qb)|exact HB.out)) hb);have n1_:=aM (hbox);have n2_:=aM ((by rw [hg];exact (Qh (by repeat (first|(with_reducible first|exact HB.out|apply Qc|apply Qa|apply Qb)|exact HB.out))):w.heap.size≤gb101));have n3_:=aM ((by rw [hg];exact (Qh (by repeat (first|(with_reducible first|exact HB.out|apply Qc|apply Qa|apply Qb)|exact HB.out))):w.heap.size≤gb101));clear HB;have HB:=n0_;have BK101:=n1_;have GW101:=n2_;have GE101:=n3_;clear n0_ n1_ n2_ n3_;clear hb hbox hg))
  (try simp only [Act.put,aA,aB,aC])
  go_cut [23] (fun v23 wc=>∃ (kq:Nat) (x23_4:Bool),v23= .bool x23_4∧Aside0 (impl_GainsOf.j0 kq a0 a1 a2 a3 x23_4=some (r1,r2))∧Aside0 (kq≤k)∧Aside0 (wc.heap[gb101]? = some (.cells #[(.slice none 0 0)] 53 (0,0)))∧Aside0 (Below w.heap.size w wc))
  case first=>
   have H:=HC5.out;clear HC5;obtain ⟨y102,hy102⟩:∃ y_:List Int,y_=(([a0,a1]:List Int)):=⟨_,rfl⟩;replace H:((impl_allWithin.f k y102 0 100).bind fun t105=>(if t105=true then ((impl_allWithin.f k (([a2,a3]:List Int)) 0 10).bind fun t109=>(impl_GainsOf.j0 k a0 a1 a2 a3 (!t109))) else (impl_GainsOf.j0 k a0 a1 a2 a3 true)))=some (r1,r2):=by first|(rw [hy102];with_reducible exact H)|(have H2_:=(Option.bind_some _ _).symm.trans H;rw [hy102];with_reducible exact H2_)|(have H2_:=(Option.bind_some _ _).symm.trans H;with_reducible exact H2_)|with_reducible exact H|(rw [hy102];exact H)|exact H
   have Ny102:=aM hy102;clear hy102;replace H:=Option.bind_eq_some_iff.mp H;obtain ⟨t105,A70,H⟩:=H;replace H:(if t105=true then ((impl_allWithin.f k (([a2,a3]:List Int)) 0 10).bind fun t109=>(impl_GainsOf.j0 k a0 a1 a2 a3 (!t109))) else (impl_GainsOf.j0 k a0 a1 a2 a3 true))=some (r1,r2):=H;have A7:=aM A70;clear A70;by_cases c8:t105=true
   ·subst c8;have H1:((impl_allWithin.f k (([a2,a3]:List Int)) 0 10).bind fun t109=>(impl_GainsOf.j0 k a0 a1 a2 a3 (!t109)))=some (r1,r2):=by rw [if_pos rfl] at H;exact H
    clear H;have H:=H1;clear H1;obtain ⟨y106,hy106⟩:∃ y_:List Int,y_=(([a2,a3]:List Int)):=⟨_,rfl⟩;replace H:((impl_allWithin.f k y106 0 10).bind fun t109=>(impl_GainsOf.j0 k a0 a1 a2 a3 (!t109)))=some (r1,r2):=by first|(rw [hy106];with_reducible exact H)|(have H2_:=(Option.bind_some _ _).symm.trans H;rw [hy106];with_reducible exact H2_)|(have H2_:=(Option.bind_some _ _).symm.trans H;with_reducible exact H2_)|with_reducible exact H|(rw [hy106];exact H)|exact H
    have Ny106:=aM hy106;clear hy106;replace H:=Option.bind_eq_some_iff.mp H;obtain ⟨t109,A90,H⟩:=H;replace H:(impl_GainsOf.j0 k a0 a1 a2 a3 (!t109))=some (r1,r2):=H;have A9:=aM A90;clear A90;have H':=aM H;clear H;go_wp2_with (first|((with_reducible refine gate_dst (N:=14) rfl ?_);(try (refine gate_guard (by rfl) ?_;dsimp only));refine Kd.R_lit (Kd.int .i64) _ 3 ?hg (N:=14) ?hd (xs:=([a0,a1]:List Int)) (inner:=[.int .i64 a0,.int .i64 a1]) (ok:=fun _=>True) (okp:=fun _=>True) ?hr ?hp (fun _ hk=>hk) trivial (Below.refl _ _) (Nat.le_refl _) (by simp) ?_;(case hd=>rfl);(case hg=>rfl);(case hr=>first|(go_simp;done)|(go_simp;rfl));(case hp=>exact (Reps.one (show Kd.M (Kd.int .i64) _ _ _ a0 [.int .i64 a0] from rfl) (Reps.one (show Kd.M (Kd.int .i64) _ _ _ a1 [.int .i64 a1] from rfl) (Reps.none _ _))));intro v103 w10 ho11 hb hg_ hnew_;clear hg_ hnew_;(first|rw [←Ny102.out] at ho11|(simp only [Int.reduceToNat] at ho11;rw [←Ny102.out] at ho11));have n0_:=aM (Kd.R_lower ho11 (Qh (by repeat (first|(with_reducible first|exact HB.out|apply Qc|apply Qa|apply Qb|refine Qd ?_ GE101.out)|exact HB.out))));have n1_:=aM (blk_below (g:=gb101) (o:= .cells #[.slice none 0 0] 53 (0,0)) (by (with_reducible repeat (first|apply Qf|apply Qg|apply Qe));exact BK101.out) hb);have n2_:=aM (Qi (by repeat (first|(with_reducible first|exact HB.out|apply Qc|apply Qa|apply Qb|refine Qd ?_ GE101.out)|exact HB.out)) hb);clear BK101;clear HB;have HO104:=n0_;have BK101:=n1_;have HB:=n2_;clear n0_ n1_ n2_;clear hb ho11;obtain ⟨Ao12,co12,eo12⟩:=Kd.R_slice HO104.out;subst eo12)|((with_reducible refine Qn (f:=123) rfl ?_);refine goesL_ (some 15) rfl rfl Try.func123 (by kernel_rfl) rfl #[.slice Ao12 y102.length co12,.int .i64 0,.int .i64 100] rfl (by (try simp only [aD,aE,aF]);first|done|rfl|(simp only [aG,aH];rfl)) ?_;(with_reducible refine (impl_allWithin.calls k _ _ y102 0 100 true _ ?side1 ?side2 A7.out).mono ?_);(case side1=>repeat (first|exact (Kd.R_reads' HO104.out).2.2|(with_reducible refine Kd.Qj ?_ _)|(with_reducible refine Kd.Qk ?_ _)|(with_reducible refine Kd.C_drew ?_)));(case side2=>exact (Kd.R_reads' HO104.out).2.1);rintro e w13 ⟨rfl,hb⟩;refine ⟨_,rfl,?_⟩;have n0_:=aM (Kd.R_below (by (with_reducible repeat (first|apply Kd.R_alloc|apply Kd.R_drewN|apply Kd.R_drew));exact HO104.out) hb);have n1_:=aM (blk_below (g:=gb101) (o:= .cells #[.slice none 0 0] 53 (0,0)) (by (with_reducible repeat (first|apply Qf|apply Qg|apply Qe));exact BK101.out) hb);have n2_:=aM (Qi (by repeat (first|(with_reducible first|exact HB.out|apply Qc|apply Qa|apply Qb|refine Qd ?_ GE101.out)|exact HB.out)) hb);clear HO104;clear BK101;clear HB;have HO104:=n0_;have BK101:=n1_;have HB:=n2_;clear n0_ n1_ n2_;(try clear hb);(try clear hb2);(try clear hk);(try clear hi))|((with_reducible refine gate_dst (N:=20) rfl ?_);(try (refine gate_guard (by rfl) ?_;dsimp only));refine Kd.R_lit (Kd.int .i64) _ 3 ?hg (N:=20) ?hd (xs:=([a2,a3]:List Int)) (inner:=[.int .i64 a2,.int .i64 a3]) (ok:=fun _=>True) (okp:=fun _=>True) ?hr ?hp (fun _ hk=>hk) trivial (Below.refl _ _) (Nat.le_refl _) (by simp) ?_;(case hd=>rfl);(case hg=>rfl);(case hr=>first|(go_simp;done)|(go_simp;rfl));(case hp=>exact (Reps.one (show Kd.M (Kd.int .i64) _ _ _ a2 [.int .i64 a2] from rfl) (Reps.one (show Kd.M (Kd.int .i64) _ _ _ a3 [.int .i64 a3] from rfl) (Reps.none _ _))));intro v107 w14 ho15 hb hg_ hnew_;clear hg_ hnew_;(first|rw [←Ny106.out] at ho15|(simp only [Int.reduceToNat] at ho15;rw [←Ny106.out] at ho15));have n0_:=aM (Kd.R_elder' (by (with_reducible repeat (first|apply Kd.R_alloc|apply Kd.R_drewN|apply Kd.R_drew));exact HO104.out) (Kd.R_base ho15) hb);have n1_:=aM (Kd.R_lower (Kd.R_new' ho15 (Kd.R_lt (by (with_reducible repeat (first|apply Kd.R_alloc|apply Kd.R_drewN|apply Kd.R_drew));exact HO104.out))) (Qh (by repeat (first|(with_reducible first|exact HB.out|apply Qc|apply Qa|apply Qb|refine Qd ?_ GE101.out)|exact HB.out))));have n2_:=aM (blk_below (g:=gb101) (o:= .cells #[.slice none 0 0] 53 (0,0)) (by (with_reducible repeat (first|apply Qf|apply Qg|apply Qe));exact BK101.out) hb);have n3_:=aM (Qi (by repeat (first|(with_reducible first|exact HB.out|apply Qc|apply Qa|apply Qb|refine Qd ?_ GE101.out)|exact HB.out)) hb);clear HO104;clear BK101;clear HB;have HO104:=n0_;have HO108:=n1_;have BK101:=n2_;have HB:=n3_;clear n0_ n1_ n2_ n3_;clear hb ho15;obtain ⟨Ao16,co16,eo16⟩:=Kd.R_slice HO108.out;subst eo16)|(go_at_call 123;(with_reducible refine (impl_allWithin.calls k _ _ y106 0 10 t109 _ ?side1 ?side2 A9.out).mono ?_);(case side1=>repeat (first|exact (Kd.R_reads' HO108.out).2.2|(with_reducible refine Kd.Qj ?_ _)|(with_reducible refine Kd.Qk ?_ _)|(with_reducible refine Kd.C_drew ?_)));(case side2=>exact (Kd.R_reads' HO108.out).2.1);rintro e w17 ⟨rfl,hb⟩;have n0_:=aM (Kd.R_below (by (with_reducible repeat (first|apply Kd.R_alloc|apply Kd.R_drewN|apply Kd.R_drew));exact HO104.out) hb);have n1_:=aM (Kd.R_below (by (with_reducible repeat (first|apply Kd.R_alloc|apply Kd.R_drewN|apply Kd.R_drew));exact HO108.out) hb);have n2_:=aM (blk_below (g:=gb101) (o:= .cells #[.slice none 0 0] 53 (0,0)) (by (with_reducible repeat (first|apply Qf|apply Qg|apply Qe));exact BK101.out) hb);have n3_:=aM (Qi (by repeat (first|(with_reducible first|exact HB.out|apply Qc|apply Qa|apply Qb|refine Qd ?_ GE101.out)|exact HB.out)) hb);clear HO104;clear HO108;clear BK101;clear HB;have HO104:=n0_;have HO108:=n1_;have BK101:=n2_;have HB:=n3_;clear n0_ n1_ n2_ n3_;(try clear hb);(try clear hb2);(try clear hk);(try clear hi)))
    go_meet
    case rel=>exact ⟨_,(!t109),(by first|rfl|(simp;done)|(simp [*];done)),H',⟨by first|omega|exact Nat.le_refl _⟩,⟨by (with_reducible repeat (first|apply Qf|apply Qg|apply Qe));exact BK101.out⟩,⟨by repeat (first|(with_reducible first|exact HB.out|apply Qc|apply Qa|apply Qb|refine Qd ?_ GE101.out)|exact HB.out)⟩⟩
   ·replace c8:=Bool.eq_false_iff.mpr c8;subst c8;have H1:(impl_GainsOf.j0 k a0 a1 a2 a3 true)=some (r1,r2):=by rw [if_neg (show ¬ (false=true) by decide)] at H;exact H
    clear H;have H:=H1;clear H1;have H':=aM H;clear H;go_wp2_with (first|((with_reducible refine gate_dst (N:=14) rfl ?_);(try (refine gate_guard (by rfl) ?_;dsimp only));refine Kd.R_lit (Kd.int .i64) _ 3 ?hg (N:=14) ?hd (xs:=([a0,a1]:List Int)) (inner:=[.int .i64 a0,.int .i64 a1]) (ok:=fun _=>True) (okp:=fun _=>True) ?hr ?hp (fun _ hk=>hk) trivial (Below.refl _ _) (Nat.le_refl _) (by simp) ?_;(case hd=>rfl);(case hg=>rfl);(case hr=>first|(go_simp;done)|(go_simp;rfl));(case hp=>exact (Reps.one (show Kd.M (Kd.int .i64) _ _ _ a0 [.int .i64 a0] from rfl) (Reps.one (show Kd.M (Kd.int .i64) _ _ _ a1 [.int .i64 a1] from rfl) (Reps.none _ _))));intro v103 w18 ho19 hb hg_ hnew_;clear hg_ hnew_;(first|rw [←Ny102.out] at ho19|(simp only [Int.reduceToNat] at ho19;rw [←Ny102.out] at ho19));have n0_:=aM (Kd.R_lower ho19 (Qh (by repeat (first|(with_reducible first|exact HB.out|apply Qc|apply Qa|apply Qb|refine Qd ?_ GE101.out)|exact HB.out))));have n1_:=aM (blk_below (g:=gb101) (o:= .cells #[.slice none 0 0] 53 (0,0)) (by (with_reducible repeat (first|apply Qf|apply Qg|apply Qe));exact BK101.out) hb);have n2_:=aM (Qi (by repeat (first|(with_reducible first|exact HB.out|apply Qc|apply Qa|apply Qb|refine Qd ?_ GE101.out)|exact HB.out)) hb);clear BK101;clear HB;have HO104:=n0_;have BK101:=n1_;have HB:=n2_;clear n0_ n1_ n2_;clear hb ho19;obtain ⟨Ao20,co20,eo20⟩:=Kd.R_slice HO104.out;subst eo20)|((with_reducible refine Qn (f:=123) rfl ?_);refine goesL_ (some 15) rfl rfl Try.func123 (by kernel_rfl) rfl #[.slice Ao20 y102.length co20,.int .i64 0,.int .i64 100] rfl (by (try simp only [aD,aE,aF]);first|done|rfl|(simp only [aG,aH];rfl)) ?_;(with_reducible refine (impl_allWithin.calls k _ _ y102 0 100 false _ ?side1 ?side2 A7.out).mono ?_);(case side1=>repeat (first|exact (Kd.R_reads' HO104.out).2.2|(with_reducible refine Kd.Qj ?_ _)|(with_reducible refine Kd.Qk ?_ _)|(with_reducible refine Kd.C_drew ?_)));(case side2=>exact (Kd.R_reads' HO104.out).2.1);rintro e w21 ⟨rfl,hb⟩;refine ⟨_,rfl,?_⟩;have n0_:=aM (Kd.R_below (by (with_reducible repeat (first|apply Kd.R_alloc|apply Kd.R_drewN|apply Kd.R_drew));exact HO104.out) hb);have n1_:=aM (blk_below (g:=gb101) (o:= .cells #[.slice none 0 0] 53 (0,0)) (by (with_reducible repeat (first|apply Qf|apply Qg|apply Qe));exact BK101.out) hb);have n2_:=aM (Qi (by repeat (first|(with_reducible first|exact HB.out|apply Qc|apply Qa|apply Qb|refine Qd ?_ GE101.out)|exact HB.out)) hb);clear HO104;clear BK101;clear HB;have HO104:=n0_;have BK101:=n1_;have HB:=n2_;clear n0_ n1_ n2_;(try clear hb);(try clear hb2);(try clear hk);(try clear hi)))
    go_meet
    case rel=>exact ⟨_,(true),(by first|rfl|(simp;done)|(simp [*];done)),H',⟨by first|omega|exact Nat.le_refl _⟩,⟨by (with_reducible repeat (first|apply Qf|apply Qg|apply Qe));exact BK101.out⟩,⟨by repeat (first|(with_reducible first|exact HB.out|apply Qc|apply Qa|apply Qb|refine Qd ?_ GE101.out)|exact HB.out)⟩⟩
  case rest=>
   clear HC5;(try clear c1);(try clear p2);(try clear c5);(try clear c8);(try clear c12);obtain ⟨kq,x23_4,rfl,HA,HJ4,BK101,HB⟩:=hcut
   cases kq with
   |zero=>exact absurd HA.out (by simp [impl_GainsOf.j0])
   |succ kj4=>
    have H:=HA.out;clear HA;simp only [impl_GainsOf.j0] at H;by_cases c22:x23_4=true
    ·subst c22;have H1:(some (([]:List Int),false))=some (r1,r2):=by rw [if_pos rfl] at H;exact H
     clear H;have H:=H1;clear H1;simp only [Option.some.injEq,Prod.mk.injEq] at H;obtain ⟨rfl,rfl⟩:=H;have hcz23_0:wc.cell? ⟨gb101,0,none⟩=some (.slice none 0 0):=(blk_cell BK101.out 0).trans rfl;have hfz23_0:=blk_frozen BK101.out 0;go_wp2;refine bodyPost_ret (results_ct rfl _ _ gb101 53 #[.slice none 0 0] (0,0) _ rfl (by (with_reducible repeat (first|apply Qf|apply Qg|apply Qe));refine blk_put (cs:=#[.slice none 0 0]) ?_ 0 _ rfl;(with_reducible repeat (first|apply Qf|apply Qg|apply Qe));exact BK101.out) Try.underlying53 rfl (by kernel_rfl)) rfl ?_;exact ⟨_,by first|rfl|(simp [errW_none,errW_some] <;> rfl)|(simp [*,errW_none,errW_some] <;> rfl),by first|exact Kd.R_nil _ _ _ _ _|exact Kd.N_nil _ _ _ _ _|exact Kd.V_nil _ _ _ _ _|exact Kd.Q_nil _ _ _ _ _|exact Kd.S_nil _ _ _ _ _,by repeat (first|(with_reducible first|exact HB.out|apply Qc|apply Qa|apply Qb|refine Qd ?_ GE101.out)|exact HB.out)⟩
    ·replace c22:=Bool.eq_false_iff.mpr c22;subst c22;have H1:(impl_GainsOf.l0 kj4 a0 a1 a2 a3 1 ([]:List Int))=some (r1,r2):=by rw [if_neg (show ¬ (false=true) by decide)] at H;exact H
     clear H;have H:=H1;clear H1;have H':=aM H;clear H;go_wp2_with (first|((with_reducible refine gate_dst (N:=10) rfl ?_);(try (refine gate_guard (by rfl) ?_;dsimp only));refine box_event ?hg (N:=10) ?hd (cs:=#[.slice none 0 0]) (t:=53) ?hr ?_;(case hd=>rfl);(case hg=>rfl);(case hr=>first|(go_simp;done)|(go_simp;rfl));intro gb110 hg w24 hbox hb;have n0_:=aM (blk_below (g:=gb101) (o:= .cells #[.slice none 0 0] 53 (0,0)) (by (with_reducible repeat (first|apply Qf|apply Qg|apply Qe));exact BK101.out) hb);have n1_:=aM (Qi (by repeat (first|(with_reducible first|exact HB.out|apply Qc|apply Qa|apply Qb|refine Qd ?_ GE101.out)|exact HB.out)) hb);have n2_:=aM (hbox);have n3_:=aM ((by rw [hg];exact (Qh (by repeat (first|(with_reducible first|exact HB.out|apply Qc|apply Qa|apply Qb|refine Qd ?_ GE101.out)|exact HB.out))):w.heap.size≤gb110));have n4_:=aM ((by rw [hg];exact (Qh (by repeat (first|(with_reducible first|exact HB.out|apply Qc|apply Qa|apply Qb|refine Qd ?_ GE101.out)|exact HB.out))):w.heap.size≤gb110));have n5_:=aM ((by rw [hg];exact Nat.ne_of_lt (blk_lt (g:=gb101) (o:= .cells #[.slice none 0 0] 53 (0,0)) (by (with_reducible repeat (first|apply Qf|apply Qg|apply Qe));exact BK101.out)):gb101≠gb110));have n6_:=aM ((by rw [hg];exact Nat.ne_of_gt (blk_lt (g:=gb101) (o:= .cells #[.slice none 0 0] 53 (0,0)) (by (with_reducible repeat (first|apply Qf|apply Qg|apply Qe));exact BK101.out)):gb110≠gb101));clear BK101;clear HB;have BK101:=n0_;have HB:=n1_;have BK110:=n2_;have GW110:=n3_;have GE110:=n4_;have NB101_110:=n5_;have NB110_101:=n6_;clear n0_ n1_ n2_ n3_ n4_ n5_ n6_;clear hb hbox hg;have hnb25:=NB110_101.out;have hnc25:=NB101_110.out;have hcz26_0:w24.cell? ⟨gb110,0,none⟩=some (.slice none 0 0):=(blk_cell BK110.out 0).trans rfl;have hfz26_0:=blk_frozen BK110.out 0))
     go_loopg [11] kj4 (fun kq v11 w'=>∃ (x11_2:Int) (x111000_2:List Int) (u111000:Value),v11= .int .i64 x11_2∧Aside0 (impl_GainsOf.l0 kq a0 a1 a2 a3 x11_2 x111000_2=some (r1,r2))∧Aside0 (kq≤kj4)∧Aside0 (Kd.R (Kd.int .i64) 3 w' w.heap.size (fun _=>True) u111000 x111000_2)∧Aside0 (w'.heap[gb101]? = some (.cells #[(.slice none 0 0)] 53 (0,0)))∧Aside0 (w'.heap[gb110]? = some (.cells #[u111000] 53 (0,0)))∧Aside0 (Below w.heap.size w w'))
     case atStart=>exact ⟨(1),(([]:List Int)),(.slice none 0 0),(by first|rfl|(simp;done)|(simp [*];done)),H',⟨Nat.le_refl _⟩,⟨by first|exact Kd.R_nil _ _ _ _ _|exact Kd.N_nil _ _ _ _ _|exact Kd.V_nil _ _ _ _ _|exact Kd.Q_nil _ _ _ _ _|exact Kd.S_nil _ _ _ _ _⟩,⟨by (with_reducible repeat (first|apply Qf|apply Qg|apply Qe));refine blk_far ?_ NB101_110.out _;(with_reducible repeat (first|apply Qf|apply Qg|apply Qe));exact BK101.out⟩,⟨by (with_reducible repeat (first|apply Qf|apply Qg|apply Qe));refine blk_put (cs:=#[.slice none 0 0]) ?_ 0 _ rfl;(with_reducible repeat (first|apply Qf|apply Qg|apply Qe));exact BK110.out⟩,⟨by repeat (first|(with_reducible first|exact HB.out|apply Qc|apply Qa|apply Qb|refine Qd ?_ GE101.out|refine Qd ?_ GE110.out)|exact HB.out)⟩⟩
     case round=>
      clear H';(try clear c1);(try clear c2);(try clear p2);(try clear c5);(try clear c8);(try clear c12);(try clear c22);(try clear c25);(try clear hcz23_0);(try clear hcz26_0);(try clear hfz23_0);(try clear hfz26_0);(try clear p2);obtain ⟨x11_2,x111000_2,u111000,rfl,HA,HK2,HO_111000,BK101,BK110,HB⟩:=hrel
      cases gk with
      |zero=>exact absurd HA.out (by simp [impl_GainsOf.l0])
      |succ k2=>
       have H:=HA.out;clear HA;simp only [impl_GainsOf.l0] at H;by_cases c27:x11_2≤6
       ·rw [if_pos c27] at H;have c27b0:decide (x11_2≤6)=true:=decide_eq_true c27;clear c27;by_cases c28:x11_2=0
        ·rw [if_pos c28] at H;exact absurd H (by simp)
        ·rw [if_neg c28] at H;have c28b0:(x11_2 == 0)=false:=beq_eq_false_iff_ne.mpr c28;have c28b1:(x11_2 != 0)=true:=bne_iff_ne.mpr c28;by_cases c29:x111000_2.length<17592186044416
         ·rw [if_pos c29] at H;have LMc29:=aM c29;clear c29;obtain ⟨y111,hy111⟩:∃ y_:List Int,y_=(x111000_2 ++ [wrap64 ((wrap64 (a2 * a0)) - (wrap64 (Int.tdiv (wrap64 ((wrap64 ((wrap64 (a3 * a1))+x11_2)) - 1)) x11_2)))]):=⟨_,rfl⟩;replace H:(impl_GainsOf.l0 k2 a0 a1 a2 a3 (wrap64 (x11_2+1)) y111)=some (r1,r2):=by first|(rw [hy111];with_reducible exact H)|(have H2_:=(Option.bind_some _ _).symm.trans H;rw [hy111];with_reducible exact H2_)|(have H2_:=(Option.bind_some _ _).symm.trans H;with_reducible exact H2_)|with_reducible exact H|(rw [hy111];exact H)|exact H
          have Ny111:=aM hy111;clear hy111;have H':=aM H;clear H
          try go_wp2
          have n0_:=aM (Kd.R_drew HO_111000.out);have n1_:=aM (Qg BK101.out);have n2_:=aM (Qg BK110.out);have n3_:=aM (Qb HB.out);clear HO_111000;clear BK101;clear BK110;clear HB;have HO_111000:=n0_;have BK101:=n1_;have BK110:=n2_;have HB:=n3_;clear n0_ n1_ n2_ n3_;refine start_ (n:=18) (S:=fun w'=>w'.cell? ⟨gb110,0,none⟩=some (u111000)) (ds:=[17]) #[false,false,false,false,false,false,false,false,false,false,false,false,false,false,false,false,false,false] (by kernel_rfl) rfl rfl ((blk_cell BK110.out 0).trans rfl) (fun hHeld=>?_);refine with_tabW impl_GainsOf.tab7 impl_GainsOf.bits7 (fun HT_ HW_=>?_)
          generalize wr.drew=w30 at HO_111000 BK101 BK110 HB hHeld ⊢
          refine pure_ (i:=0) (N:=some 30) (v:=?_) (a':=?_) #[true,false,false,false,false,false,false,false,false,false,false,false,false,false,false,false,false,false] rfl rfl (any_of HT_.out (by kernel_rfl)) (fun _ _ _ h=>h) (Or.inl ⟨by rfl,?_⟩) ?_ ?_
          rotate_left
          ·intro w'
           go_simp
           with_reducible rfl
          rotate_left
          ·simp only [Act.put,aA,aB,aC,i64_w,i32_w]
           rfl
          refine pure_ (i:=2) (N:=some 32) (v:=?_) (a':=?_) #[true,false,true,false,false,false,false,false,false,false,false,false,false,false,false,false,false,false] rfl rfl (any_of HT_.out (by kernel_rfl)) (fun _ _ _ h=>h) (Or.inl ⟨by rfl,?_⟩) ?_ ?_
          rotate_left
          ·intro w'
           go_simp
           with_reducible rfl
          rotate_left
          ·simp only [Act.put,aA,aB,aC,i64_w,i32_w]
           rfl
          refine pure_ (i:=3) (N:=some 33) (v:=?_) (a':=?_) #[true,false,true,true,false,false,false,false,false,false,false,false,false,false,false,false,false,false] rfl rfl (any_of HT_.out (by kernel_rfl)) (fun _ _ _ h=>h) (Or.inl ⟨by rfl,?_⟩) ?_ ?_
          rotate_left
          ·intro w'
           go_simp
           with_reducible rfl
          rotate_left
          ·simp only [Act.put,aA,aB,aC,i64_w,i32_w]
           rfl
          refine pure_ (i:=4) (N:=some 34) (v:=?_) (a':=?_) #[true,false,true,true,true,false,false,false,false,false,false,false,false,false,false,false,false,false] rfl rfl (any_of HT_.out (by kernel_rfl)) (fun _ _ _ h=>h) (Or.inl ⟨by rfl,?_⟩) ?_ ?_
          rotate_left
          ·intro w'
           go_simp
           with_reducible rfl
          rotate_left
          ·simp only [Act.put,aA,aB,aC,i64_w,i32_w]
           rfl
          refine pure_ (i:=5) (N:=some 35) (v:=?_) (a':=?_) #[true,false,true,true,true,true,false,false,false,false,false,false,false,false,false,false,false,false] rfl rfl (any_of HT_.out (by kernel_rfl)) (fun _ _ _ h=>h) (Or.inl ⟨by rfl,?_⟩) ?_ ?_
          rotate_left
          ·intro w'
           go_simp
           with_reducible rfl
          rotate_left
          ·simp only [Act.put,aA,aB,aC,i64_w,i32_w]
           rfl
          refine pure_ (i:=6) (N:=some 36) (v:=?_) (a':=?_) #[true,false,true,true,true,true,true,false,false,false,false,false,false,false,false,false,false,false] rfl rfl (any_of HT_.out (by kernel_rfl)) (fun _ _ _ h=>h) (Or.inl ⟨by rfl,?_⟩) ?_ ?_
          rotate_left
          ·intro w'
           go_simp
           with_reducible rfl
          rotate_left
          ·simp only [Act.put,aA,aB,aC,i64_w,i32_w]
           rfl
          refine pure_ (i:=7) (N:=some 37) (v:=?_) (a':=?_) #[true,false,true,true,true,true,true,true,false,false,false,false,false,false,false,false,false,false] rfl rfl (any_of HT_.out (by kernel_rfl)) (fun _ _ _ h=>h) (Or.inl ⟨by rfl,?_⟩) ?_ ?_
          rotate_left
          ·intro w'
           go_simp
           with_reducible rfl
          rotate_left
          ·simp only [Act.put,aA,aB,aC,i64_w,i32_w]
           rfl
          refine pure_ (i:=8) (N:=some 38) (v:=?_) (a':=?_) #[true,false,true,true,true,true,true,true,true,false,false,false,false,false,false,false,false,false] rfl rfl (any_of HT_.out (by kernel_rfl)) (fun _ _ _ h=>h) (Or.inl ⟨by rfl,?_⟩) ?_ ?_
          rotate_left
          ·intro w'
           go_simp
           with_reducible rfl
          rotate_left
          ·simp only [Act.put,aA,aB,aC,i64_w,i32_w]
           rfl
          refine pure_ (i:=9) (N:=some 39) (v:=?_) (a':=?_) #[true,false,true,true,true,true,true,true,true,true,false,false,false,false,false,false,false,false] rfl rfl (any_of HT_.out (by kernel_rfl)) (fun _ _ _ h=>h) (Or.inl ⟨by rfl,?_⟩) ?_ ?_
          rotate_left
          ·intro w'
           go_simp
           with_reducible rfl
          rotate_left
          ·simp only [Act.put,aA,aB,aC,i64_w,i32_w]
           rfl
          refine pure_ (i:=10) (N:=some 40) (v:=?_) (a':=?_) #[true,false,true,true,true,true,true,true,true,true,true,false,false,false,false,false,false,false] rfl rfl (any_of HT_.out (by kernel_rfl)) (fun _ _ _ h=>h) (Or.inl ⟨by rfl,?_⟩) ?_ ?_
          rotate_left
          ·intro w'
           go_simp
           with_reducible rfl
          rotate_left
          ·simp only [Act.put,aA,aB,aC,i64_w,i32_w]
           rfl
          refine pure_ (i:=11) (N:=some 41) (v:=?_) (a':=?_) #[true,false,true,true,true,true,true,true,true,true,true,true,false,false,false,false,false,false] rfl rfl (any_of HT_.out (by kernel_rfl)) (fun _ _ _ h=>h) (Or.inl ⟨by rfl,?_⟩) ?_ ?_
          rotate_left
          ·intro w'
           go_simp
           with_reducible rfl
          rotate_left
          ·simp only [Act.put,aA,aB,aC,i64_w,i32_w]
           rfl
          refine pure_ (i:=12) (N:=some 42) (v:=?_) (a':=?_) #[true,false,true,true,true,true,true,true,true,true,true,true,true,false,false,false,false,false] rfl rfl (any_of HT_.out (by kernel_rfl)) (fun _ _ _ h=>h) (Or.inl ⟨by rfl,?_⟩) ?_ ?_
          rotate_left
          ·intro w'
           go_simp
           with_reducible rfl
          rotate_left
          ·simp only [Act.put,aA,aB,aC,i64_w,i32_w]
           rfl
          refine pure_ (i:=13) (N:=some 43) (v:=?_) (a':=?_) #[true,false,true,true,true,true,true,true,true,true,true,true,true,true,false,false,false,false] rfl rfl (any_of HT_.out (by kernel_rfl)) (fun _ _ _ h=>h) (Or.inl ⟨by rfl,?_⟩) ?_ ?_
          rotate_left
          ·intro w'
           go_simp
           with_reducible rfl
          rotate_left
          ·simp only [Act.put,aA,aB,aC,i64_w,i32_w]
           rfl
          refine take_ (i:=1) (N:=some 31) (v:=?_) (a':=?_) #[true,true,true,true,true,true,true,true,true,true,true,true,true,true,false,false,false,false] rfl rfl (take_ofW HT_.out HW_.out (by kernel_rfl)) (fun _ _ _ h=>h) (Or.inl ⟨by rfl,?_⟩) hHeld ?_ ?_
          rotate_left
          ·intro w' s0
           go_simp
           with_reducible rfl
          rotate_left
          ·simp only [Act.put,aA,aB,aC,i64_w,i32_w]
           rfl
          refine one_ (i:=14) (N:=some 44) #[true,true,true,true,true,true,true,true,true,true,true,true,true,true,true,false,false,false] rfl rfl (one_of HT_.out (by kernel_rfl)) (by decide) (fun K hK=>?_);refine value_ (w1:=?_) (v:=?_) (by rfl) rfl ?_ ?_
          rotate_left 2
          ·go_simp
           constructor
           ·rfl
           ·rfl
          refine hK.out _ _ ((blk_cell (Qe BK110.out _) 0).trans rfl) (fun hHeld=>?_);clear hK K;refine norm_ (a':=?_) ?_ ?_
          rotate_left
          ·show Act.put _ (some 44) _=_
           simp only [Act.put,aA,aB,aC,i64_w,i32_w]
           rfl
          refine one_ (i:=15) (N:=some 45) #[true,true,true,true,true,true,true,true,true,true,true,true,true,true,true,true,false,false] rfl rfl (one_of HT_.out (by kernel_rfl)) (by decide) (fun K hK=>?_);refine Kd.R_append_step (Kd.int .i64) (w0:=w) w.heap.size (by rfl) (.tmp 31) (.tmp 44) 23 3 (.int .i64 0) 8 rfl Try.underlying23 info3 rfl (by decide) (by omega) u111000 x111000_2 (wrap64 ((wrap64 (a2 * a0)) - (wrap64 (Int.tdiv (wrap64 ((wrap64 ((wrap64 (a3 * a1))+x11_2)) - 1)) x11_2)))) [.int .i64 (wrap64 ((wrap64 (a2 * a0)) - (wrap64 (Int.tdiv (wrap64 ((wrap64 ((wrap64 (a3 * a1))+x11_2)) - 1)) x11_2))))] (fun _=>True) (fun _=>False) rfl rfl ?aP (fun _ hk=>hk.elim) ?aF ?aO ?aB ?aS ?aL ?_
          (case aP=>exact rfl)
          (case aB=>exact (by repeat (first|(with_reducible first|exact HB.out|apply Qc|apply Qa|apply Qb|refine Qd ?_ GE101.out|refine Qd ?_ GE110.out)|exact HB.out)))
          (case aF=>exact (fun _ _=>trivial))
          (case aO=>exact (by (with_reducible repeat (first|apply Kd.R_alloc|apply Kd.R_drewN|apply Kd.R_drew));exact HO_111000.out))
          (case aS=>exact (Qh (by repeat (first|(with_reducible first|exact HB.out|apply Qc|apply Qa|apply Qb|refine Qd ?_ GE101.out|refine Qd ?_ GE110.out)|exact HB.out))))
          (case aL=>have:=LMc29.out;omega)
          intro v112 w31 ho hb hg hat;rw [←Ny111.out] at ho;have n0_:=aM (blk_grown (g:=gb101) (o:= .cells #[.slice none 0 0] 53 (0,0)) (by (with_reducible repeat (first|apply Qf|apply Qg|apply Qe));exact BK101.out) hg (Kd.R_ne HO_111000.out BK101.out (by decide)));have n1_:=aM (blk_grown (g:=gb110) (o:= .cells #[u111000] 53 (0,0)) (by (with_reducible repeat (first|apply Qf|apply Qg|apply Qe));exact BK110.out) hg (Kd.R_ne HO_111000.out BK110.out (by decide)));have n2_:=aM (hb);have n3_:=aM (ho);clear BK101;clear BK110;clear HB;clear HO_111000;have BK101:=n0_;have BK110:=n1_;have HB:=n2_;have HO113:=n3_;clear n0_ n1_ n2_ n3_;clear ho hb hg hat;obtain ⟨Ao32,co32,eo32⟩:=Kd.R_slice HO113.out
          (first|subst eo32|(injection eo32 with f1_ f2_ f3_;have f4_:=f1_.symm;have f5_:=f3_.symm;clear f1_ f2_ f3_;subst f4_;subst f5_))
          refine hK.out _ _ ((blk_cell BK110.out 0).trans rfl) (fun hHeld=>?_);clear hK K;refine norm_ (a':=?_) ?_ ?_
          rotate_left
          ·show Act.put _ (some 45) _=_
           simp only [Act.put,aA,aB,aC,i64_w,i32_w]
           rfl
          refine pure_ (i:=16) (N:=some 46) (v:=?_) (a':=?_) #[true,true,true,true,true,true,true,true,true,true,true,true,true,true,true,true,true,false] rfl rfl (any_of HT_.out (by kernel_rfl)) (fun _ _ _ h=>h) (Or.inl ⟨by rfl,?_⟩) ?_ ?_
          rotate_left
          ·intro w'
           go_simp
           with_reducible rfl
          rotate_left
          ·simp only [Act.put,aA,aB,aC,i64_w,i32_w]
           rfl
          refine last_ (i:=17) (N:=none) #[true,true,true,true,true,true,true,true,true,true,true,true,true,true,true,true,true,true] rfl rfl (one_of HT_.out (by kernel_rfl)) (by decide) (fun K hK=>?_);have hs33:w31.cell? ⟨gb110,0,none⟩=some (u111000):=(blk_cell BK110.out 0).trans rfl;have hfs33:=blk_frozen BK110.out 0;have hns33_0:=NB101_110.out;have hms33_0:=NB110_101.out;refine skip_ (w1:=?_) (by rfl) rfl ?_ ?_
          rotate_left
          ·go_simp
           rfl
          refine hK.out _ _ ?_;clear hK K;refine done_ (done_of HT_.out (by kernel_rfl)) ?_
          try go_wp2
          go_roundg k2
          case measure=>have:=HJ4.out;have:=HK2.out;omega
          case rel=>exact ⟨(wrap64 (x11_2+1)),(y111),(.slice Ao32 y111.length co32),(by first|rfl|(simp;done)|(simp [*];done)),H',⟨by have:=HJ4.out;have:=HK2.out;omega⟩,⟨by (with_reducible repeat (first|apply Kd.R_alloc|apply Kd.R_drewN|apply Kd.R_drew));exact Kd.R_mono (Kd.R_far (p:=⟨gb110,0,none⟩) (Kd.R_types HO113.out BK110.out (by decide)) (fun _ hk=>hk.2) (.slice Ao32 y111.length co32)) (fun _ hk=>trivial)⟩,⟨by (with_reducible repeat (first|apply Qf|apply Qg|apply Qe));refine blk_far ?_ NB101_110.out _;(with_reducible repeat (first|apply Qf|apply Qg|apply Qe));exact BK101.out⟩,⟨by (with_reducible repeat (first|apply Qf|apply Qg|apply Qe));refine blk_put (cs:=#[u111000]) ?_ 0 _ rfl;(with_reducible repeat (first|apply Qf|apply Qg|apply Qe));exact BK110.out⟩,⟨by repeat (first|(with_reducible first|exact HB.out|apply Qc|apply Qa|apply Qb|refine Qd ?_ GE101.out|refine Qd ?_ GE110.out)|exact HB.out)⟩⟩
         ·rw [if_neg c29] at H;exact absurd H (by simp)
       ·rw [if_neg c27] at H;have c27b0:decide (x11_2≤6)=false:=decide_eq_false c27;clear c27;replace H:=Option.bind_eq_some_iff.mp H;obtain ⟨t114,A340,H⟩:=H;replace H:(if t114=true then (some (x111000_2,true)) else (some (([]:List Int),false)))=some (r1,r2):=H;have A34:=aM A340;clear A340;by_cases c35:t114=true
        ·subst c35;have H1:(some (x111000_2,true))=some (r1,r2):=by rw [if_pos rfl] at H;exact H
         clear H;have H:=H1;clear H1;simp only [Option.some.injEq,Prod.mk.injEq] at H;obtain ⟨rfl,rfl⟩:=H;have hnb36:=NB110_101.out;have hnc36:=NB101_110.out;have hcz37_0:wr.cell? ⟨gb110,0,none⟩=some (u111000):=(blk_cell BK110.out 0).trans rfl;have hfz37_0:=blk_frozen BK110.out 0;obtain ⟨Ao38,co38,eo38⟩:=Kd.R_slice HO_111000.out;subst eo38;go_wp2_with (first|((with_reducible refine Qn (f:=151) rfl ?_);refine goesL_ (some 48) rfl rfl Try.func151 (by kernel_rfl) rfl #[.agg #[.slice Ao38 x111000_2.length co38]] rfl (by (try simp only [aD,aE,aF]);first|done|rfl|(simp only [aG,aH];rfl)) ?_;(with_reducible refine (impl_isOffer.calls k2 _ _ x111000_2 true _ ?side1 ?side2 A34.out).mono ?_);(case side1=>repeat (first|exact (Kd.R_reads' HO_111000.out).2.2|(with_reducible refine Kd.Qj ?_ _)|(with_reducible refine Kd.Qk ?_ _)|(with_reducible refine Kd.C_drew ?_)));(case side2=>exact (Kd.R_reads' HO_111000.out).2.1);rintro e w39 ⟨rfl,hb⟩;refine ⟨_,rfl,?_⟩;have n0_:=aM (Kd.R_below (by (with_reducible repeat (first|apply Kd.R_alloc|apply Kd.R_drewN|apply Kd.R_drew));exact HO_111000.out) hb);have n1_:=aM (blk_below (g:=gb101) (o:= .cells #[.slice none 0 0] 53 (0,0)) (by (with_reducible repeat (first|apply Qf|apply Qg|apply Qe));exact BK101.out) hb);have n2_:=aM (blk_below (g:=gb110) (o:= .cells #[.slice Ao38 x111000_2.length co38] 53 (0,0)) (by (with_reducible repeat (first|apply Qf|apply Qg|apply Qe));exact BK110.out) hb);have n3_:=aM (Qi (by repeat (first|(with_reducible first|exact HB.out|apply Qc|apply Qa|apply Qb|refine Qd ?_ GE101.out|refine Qd ?_ GE110.out)|exact HB.out)) hb);clear HO_111000;clear BK101;clear BK110;clear HB;have HO_111000:=n0_;have BK101:=n1_;have BK110:=n2_;have HB:=n3_;clear n0_ n1_ n2_ n3_;(try clear hb);(try clear hb2);(try clear hk);(try clear hi);have hcz40_0:w39.cell? ⟨gb110,0,none⟩=some (.slice Ao38 x111000_2.length co38):=(blk_cell BK110.out 0).trans rfl;have hfz40_0:=blk_frozen BK110.out 0;have hcz41_0:w39.cell? ⟨gb101,0,none⟩=some (.slice none 0 0):=(blk_cell BK101.out 0).trans rfl;have hfz41_0:=blk_frozen BK101.out 0))
         refine bodyPost_ret (results_ct rfl _ _ gb101 53 #[.slice Ao38 x111000_2.length co38] (0,0) _ rfl (by (with_reducible repeat (first|apply Qf|apply Qg|apply Qe));refine blk_put (cs:=#[.slice none 0 0]) ?_ 0 _ rfl;(with_reducible repeat (first|apply Qf|apply Qg|apply Qe));exact BK101.out) Try.underlying53 rfl (by kernel_rfl)) rfl ?_;exact ⟨_,by first|rfl|(simp [errW_none,errW_some] <;> rfl)|(simp [*,errW_none,errW_some] <;> rfl),by (with_reducible repeat (first|apply Kd.R_alloc|apply Kd.R_drewN|apply Kd.R_drew));exact Kd.R_mono (Kd.R_far (p:=⟨gb101,0,none⟩) (Kd.R_types HO_111000.out BK101.out (by decide)) (fun _ hk=>hk.2) (.slice Ao38 x111000_2.length co38)) (fun _ hk=>trivial),by repeat (first|(with_reducible first|exact HB.out|apply Qc|apply Qa|apply Qb|refine Qd ?_ GE101.out|refine Qd ?_ GE110.out)|exact HB.out)⟩
        ·replace c35:=Bool.eq_false_iff.mpr c35;subst c35;have H1:(some (([]:List Int),false))=some (r1,r2):=by rw [if_neg (show ¬ (false=true) by decide)] at H;exact H
         clear H;have H:=H1;clear H1;simp only [Option.some.injEq,Prod.mk.injEq] at H;obtain ⟨rfl,rfl⟩:=H;have hnb42:=NB110_101.out;have hnc42:=NB101_110.out;have hcz43_0:wr.cell? ⟨gb110,0,none⟩=some (u111000):=(blk_cell BK110.out 0).trans rfl;have hfz43_0:=blk_frozen BK110.out 0;obtain ⟨Ao44,co44,eo44⟩:=Kd.R_slice HO_111000.out;subst eo44;go_wp2_with (first|((with_reducible refine Qn (f:=151) rfl ?_);refine goesL_ (some 48) rfl rfl Try.func151 (by kernel_rfl) rfl #[.agg #[.slice Ao44 x111000_2.length co44]] rfl (by (try simp only [aD,aE,aF]);first|done|rfl|(simp only [aG,aH];rfl)) ?_;(with_reducible refine (impl_isOffer.calls k2 _ _ x111000_2 false _ ?side1 ?side2 A34.out).mono ?_);(case side1=>repeat (first|exact (Kd.R_reads' HO_111000.out).2.2|(with_reducible refine Kd.Qj ?_ _)|(with_reducible refine Kd.Qk ?_ _)|(with_reducible refine Kd.C_drew ?_)));(case side2=>exact (Kd.R_reads' HO_111000.out).2.1);rintro e w45 ⟨rfl,hb⟩;refine ⟨_,rfl,?_⟩;have n0_:=aM (Kd.R_below (by (with_reducible repeat (first|apply Kd.R_alloc|apply Kd.R_drewN|apply Kd.R_drew));exact HO_111000.out) hb);have n1_:=aM (blk_below (g:=gb101) (o:= .cells #[.slice none 0 0] 53 (0,0)) (by (with_reducible repeat (first|apply Qf|apply Qg|apply Qe));exact BK101.out) hb);have n2_:=aM (blk_below (g:=gb110) (o:= .cells #[.slice Ao44 x111000_2.length co44] 53 (0,0)) (by (with_reducible repeat (first|apply Qf|apply Qg|apply Qe));exact BK110.out) hb);have n3_:=aM (Qi (by repeat (first|(with_reducible first|exact HB.out|apply Qc|apply Qa|apply Qb|refine Qd ?_ GE101.out|refine Qd ?_ GE110.out)|exact HB.out)) hb);clear HO_111000;clear BK101;clear BK110;clear HB;have HO_111000:=n0_;have BK101:=n1_;have BK110:=n2_;have HB:=n3_;clear n0_ n1_ n2_ n3_;(try clear hb);(try clear hb2);(try clear hk);(try clear hi);have hcz46_0:w45.cell? ⟨gb101,0,none⟩=some (.slice none 0 0):=(blk_cell BK101.out 0).trans rfl;have hfz46_0:=blk_frozen BK101.out 0))
         refine bodyPost_ret (results_ct rfl _ _ gb101 53 #[.slice none 0 0] (0,0) _ rfl (by (with_reducible repeat (first|apply Qf|apply Qg|apply Qe));refine blk_put (cs:=#[.slice none 0 0]) ?_ 0 _ rfl;(with_reducible repeat (first|apply Qf|apply Qg|apply Qe));exact BK101.out) Try.underlying53 rfl (by kernel_rfl)) rfl ?_;exact ⟨_,by first|rfl|(simp [errW_none,errW_some] <;> rfl)|(simp [*,errW_none,errW_some] <;> rfl),by first|exact Kd.R_nil _ _ _ _ _|exact Kd.N_nil _ _ _ _ _|exact Kd.V_nil _ _ _ _ _|exact Kd.Q_nil _ _ _ _ _|exact Kd.S_nil _ _ _ _ _,by repeat (first|(with_reducible first|exact HB.out|apply Qc|apply Qa|apply Qb|refine Qd ?_ GE101.out|refine Qd ?_ GE110.out)|exact HB.out)⟩
end Go.Proofs.Ytpagpbamdpllnaa.Print
