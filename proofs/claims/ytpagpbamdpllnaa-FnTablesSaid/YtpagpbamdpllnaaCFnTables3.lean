/- With more places there is no less to gain, in whatever order offers stand, and without one no more, for drawn offers: no condition but the statement's own. -/
import Derived.Test.YtpagpbamdpllnaaCFnTables0
import Derived.Test.YtpagpbamdpllnaaCFnTables1
import Derived.Test.YtpagpbamdpllnaaCFnTables2
set_option linter.unusedVariables false
set_option linter.unusedSimpArgs false
namespace Go.Proofs.Ytpagpbamdpllnaa.Print
open Go.RowKit Go.Proofs.YtpagpbamdpllnaaW.PrintWords Go.Proofs.YtpagpbamdpllnaaW.PrintLast Go.Proofs.YtpagpbamdpllnaaW.PrintMore
attribute [local go_sem] max2_int min2_int max_two min_two max_three min_three max_four min_four

mutual
def spec_BestChoice.j0:Nat→List (S53)→Int→Bool→Option (List Int×Int×Bool)
  |0,_,_,_=>none
  |k+1,x0,x1,x19=>if x19=true then (some (([]:List Int),0,false)) else ((spec_l6Rows.f k x0 x1).bind fun t103=>(if 0≤(x0.length:Int) then (if ((x0.length:Int):Int).toNat≤35184372088832 then (spec_BestChoice.l0 k x0 x1 t103 (List.replicate ((x0.length:Int):Int).toNat 0) x1 (wrap64 ((x0.length:Int) - 1))) else (none)) else (none)))
def spec_BestChoice.l0:Nat→List (S53)→Int→List (List Int)→List Int→Int→Int→Option (List Int×Int×Bool)
  |0,_,_,_,_,_,_=>none
  |k+1,x0,x1,x7,x8,x9,x10=>if x10 ≥ 0 then (spec_BestChoice.l1 k x0 x1 x7 x8 x9 x10 0) else (if 0≤(x0.length:Int) then (if (x0.length:Int)<(x7.length:Int) then (if 0≤x1 then (if x1<((rd_L2 x7 (x0.length:Int)).length:Int) then (some (x8,rd (rd_L2 x7 (x0.length:Int)) x1,true)) else (none)) else (none)) else (none)) else (none))
def spec_BestChoice.l1:Nat→List (S53)→Int→List (List Int)→List Int→Int→Int→Int→Option (List Int×Int×Bool)
  |0,_,_,_,_,_,_,_=>none
  |k+1,x0,x1,x7,x8,x9,x10,x11=>if 0≤x10 then (if x10<(x7.length:Int) then (if 0≤(wrap64 (x9 - x11)) then (if (wrap64 (x9 - x11))<((rd_L2 x7 x10).length:Int) then (if x10<(x0.length:Int) then ((spec_l6Gain.f ((rd_T53 x0 x10).f0) x11).bind fun t114=>(if 0≤(wrap64 (x10+1)) then (if (wrap64 (x10+1))<(x7.length:Int) then (if 0≤x9 then (if x9<((rd_L2 x7 (wrap64 (x10+1))).length:Int) then (if (wrap64 ((rd (rd_L2 x7 x10) (wrap64 (x9 - x11)))+t114))=(rd (rd_L2 x7 (wrap64 (x10+1))) x9) then (if x10<(x8.length:Int) then (spec_BestChoice.l0 k x0 x1 x7 (x8.set (x10:Int).toNat x11) (wrap64 (x9 - x11)) (wrap64 (x10 - 1))) else (none)) else (spec_BestChoice.l1 k x0 x1 x7 x8 x9 x10 (wrap64 (x11+1)))) else (none)) else (none)) else (none)) else (none))) else (none)) else (none)) else (none)) else (none)) else (none)
end
def spec_BestChoice.f (k:Nat) (l0:List (S53)) (a1:Int):Option (List Int×Int×Bool):=(spec_GoodOffers.f k l0).bind fun t101=>(if t101=true then ((spec_l6Places.f a1).bind fun t102=>(spec_BestChoice.j0 k l0 a1 (!t102))) else (spec_BestChoice.j0 k l0 a1 true))
def spec_BestChoice.T10:Bool×List (List Nat×List Nat):=(true,[([],[]),([],[]),([0,1],[0,1]),([2],[2]),([],[]),([],[]),([4,5],[4,5]),([3,6],[3,6]),([7],[7]),([],[]),([],[]),([9,10],[9,10]),([11],[11]),([],[]),([12,13],[12,13]),([8,14],[8,14]),([],[]),([],[]),([17],[17]),([16,18],[16,18]),([19],[19]),([],[]),([20,21],[20,21]),([22],[22]),([15,23],[15,23])])
def spec_BestChoice.B10:List Nat:=[0,0,3,7,0,0,48,127,255,0,0,1536,3584,0,15872,32767,0,0,131072,458752,983040,0,4128768,8323072,16777215]
theorem spec_BestChoice.tab10:rtab .any (opsOf Try.f45 10)=spec_BestChoice.T10:=by kernel_rfl
theorem spec_BestChoice.bits10:waitsOk spec_BestChoice.T10.2 spec_BestChoice.B10=true:=by kernel_rfl
def spec_BestChoice.T14:Bool×List (List Nat×List Nat):=(true,[([],[]),([],[]),([],[]),([2],[2]),([1,3],[1,3]),([4],[4]),([],[]),([5,6],[5,6]),([7],[7]),([0,0],[0]),([8,9,0,1,2,3,4,5,6,7,8,9],[8]),([10,0,1,2,3,4,5,6,7,8,9,10],[])])
def spec_BestChoice.B14:List Nat:=[0,0,0,4,14,30,0,126,254,1,1023,2047]
theorem spec_BestChoice.tab14:rtab .any (opsOf Try.f45 14)=spec_BestChoice.T14:=by kernel_rfl
theorem spec_BestChoice.bits14:waitsOk spec_BestChoice.T14.2 spec_BestChoice.B14=true:=by kernel_rfl
set_option maxHeartbeats 8000000 in
set_option maxRecDepth 100000 in
theorem spec_BestChoice.calls (k:Nat) (A0:Option Addr) (c0:Nat) (l0:List (S53)) (a1:Int) (r1:List Int) (r2:Int) (r3:Bool) (w:World) (hr0:Kd.C k53 w A0 l0.length l0) (hc0:l0.length≤c0) (h:spec_BestChoice.f k l0 a1=some (r1,r2,r3)) :
    Calls Try.prog 45 #[.slice A0 l0.length c0,.int .i64 a1] w fun e w'=>∃ v0_:Value,e= .returned (.tuple #[v0_,.int .i64 r2,.bool r3])∧Kd.R (Kd.int .i64) 3 w' w.heap.size (fun _=>True) v0_ r1∧Below w.heap.size w w':=by
  have hu53:=Try.underlying53;have HR0:=aM hr0;have HC0:=aM hc0;clear hr0 hc0;have HB:=aM (Below.refl w.heap.size w);have H:((spec_GoodOffers.f k l0).bind fun t101=>(if t101=true then ((spec_l6Places.f a1).bind fun t102=>(spec_BestChoice.j0 k l0 a1 (!t102))) else (spec_BestChoice.j0 k l0 a1 true)))=some (r1,r2,r3):=h;clear h;have HC3:=aM H;clear H;go_enter Try.func45,Try.ntmps45
  go_upto_region 1 with (fail)
  go_cut [19] (fun v19 wc=>∃ (kq:Nat) (x19_2:Bool),v19= .bool x19_2∧Aside0 (spec_BestChoice.j0 kq l0 a1 x19_2=some (r1,r2,r3))∧Aside0 (kq≤k)∧Aside0 (Below w.heap.size w wc))
  case first=>
   have H:=HC3.out;clear HC3;replace H:=Option.bind_eq_some_iff.mp H;obtain ⟨t101,A40,H⟩:=H;replace H:(if t101=true then ((spec_l6Places.f a1).bind fun t102=>(spec_BestChoice.j0 k l0 a1 (!t102))) else (spec_BestChoice.j0 k l0 a1 true))=some (r1,r2,r3):=H;have A4:=aM A40;clear A40;by_cases c5:t101=true
   ·subst c5;have H1:((spec_l6Places.f a1).bind fun t102=>(spec_BestChoice.j0 k l0 a1 (!t102)))=some (r1,r2,r3):=by rw [if_pos rfl] at H;exact H
    clear H;have H:=H1;clear H1;replace H:=Option.bind_eq_some_iff.mp H;obtain ⟨t102,A60,H⟩:=H;replace H:(spec_BestChoice.j0 k l0 a1 (!t102))=some (r1,r2,r3):=H;have A6:=aM A60;clear A60;have H':=aM H;clear H;go_wp2_with (first|((with_reducible refine Qn (f:=49) rfl ?_);refine goesL_ (some 13) rfl rfl Try.func49 (by kernel_rfl) rfl #[.slice A0 l0.length c0] rfl (by (try simp only [aD,aE,aF]);first|done|rfl|(simp only [aG,aH];rfl)) ?_;(with_reducible refine (spec_GoodOffers.calls k _ _ l0 true _ ?side1 ?side2 A4.out).mono ?_);(case side1=>repeat (first|exact (Kd.C_below HR0.out HB.out)|(with_reducible refine Kd.Qj ?_ _)|(with_reducible refine Kd.Qk ?_ _)|(with_reducible refine Kd.C_drew ?_)));(case side2=>exact HC0.out);rintro e w7 ⟨rfl,hb⟩;refine ⟨_,rfl,?_⟩;have n0_:=aM (Qi (by repeat (first|(with_reducible first|exact HB.out|apply Qc|apply Qa|apply Qb)|exact HB.out)) hb);clear HB;have HB:=n0_;clear n0_;(try clear hb);(try clear hb2);(try clear hk);(try clear hi))|(go_at_call 142;(with_reducible refine (spec_l6Places.calls a1 t102 _ A6.out).mono ?_);rintro e w' ⟨rfl,⟨nd,rfl⟩⟩))
    go_meet
    case rel=>exact ⟨_,(!t102),(by first|rfl|(simp;done)|(simp [*];done)),H',⟨by first|omega|exact Nat.le_refl _⟩,⟨by repeat (first|(with_reducible first|exact HB.out|apply Qc|apply Qa|apply Qb)|exact HB.out)⟩⟩
   ·replace c5:=Bool.eq_false_iff.mpr c5;subst c5;have H1:(spec_BestChoice.j0 k l0 a1 true)=some (r1,r2,r3):=by rw [if_neg (show ¬ (false=true) by decide)] at H;exact H
    clear H;have H:=H1;clear H1;have H':=aM H;clear H;go_wp2_with (first|((with_reducible refine Qn (f:=49) rfl ?_);refine goesL_ (some 13) rfl rfl Try.func49 (by kernel_rfl) rfl #[.slice A0 l0.length c0] rfl (by (try simp only [aD,aE,aF]);first|done|rfl|(simp only [aG,aH];rfl)) ?_;(with_reducible refine (spec_GoodOffers.calls k _ _ l0 false _ ?side1 ?side2 A4.out).mono ?_);(case side1=>repeat (first|exact (Kd.C_below HR0.out HB.out)|(with_reducible refine Kd.Qj ?_ _)|(with_reducible refine Kd.Qk ?_ _)|(with_reducible refine Kd.C_drew ?_)));(case side2=>exact HC0.out);rintro e w8 ⟨rfl,hb⟩;refine ⟨_,rfl,?_⟩;have n0_:=aM (Qi (by repeat (first|(with_reducible first|exact HB.out|apply Qc|apply Qa|apply Qb)|exact HB.out)) hb);clear HB;have HB:=n0_;clear n0_;(try clear hb);(try clear hb2);(try clear hk);(try clear hi)))
    go_meet
    case rel=>exact ⟨_,(true),(by first|rfl|(simp;done)|(simp [*];done)),H',⟨by first|omega|exact Nat.le_refl _⟩,⟨by repeat (first|(with_reducible first|exact HB.out|apply Qc|apply Qa|apply Qb)|exact HB.out)⟩⟩
  case rest=>
   clear HC3;(try clear p2);(try clear c4);(try clear c5);obtain ⟨kq,x19_2,rfl,HA,HJ2,HB⟩:=hcut
   cases kq with
   |zero=>exact absurd HA.out (by simp [spec_BestChoice.j0])
   |succ kj2=>
    have H:=HA.out;clear HA;simp only [spec_BestChoice.j0] at H;by_cases c9:x19_2=true
    ·subst c9;have H1:(some (([]:List Int),0,false))=some (r1,r2,r3):=by rw [if_pos rfl] at H;exact H
     clear H;have H:=H1;clear H1;simp only [Option.some.injEq,Prod.mk.injEq] at H;obtain ⟨rfl,rfl,rfl⟩:=H;go_wp2
     go_ret3
     exact ⟨_,by first|rfl|(simp [errW_none,errW_some] <;> rfl)|(simp [*,errW_none,errW_some] <;> rfl),by first|exact Kd.R_nil _ _ _ _ _|exact Kd.N_nil _ _ _ _ _|exact Kd.V_nil _ _ _ _ _|exact Kd.Q_nil _ _ _ _ _|exact Kd.S_nil _ _ _ _ _,by repeat (first|(with_reducible first|exact HB.out|apply Qc|apply Qa|apply Qb)|exact HB.out)⟩
    ·replace c9:=Bool.eq_false_iff.mpr c9;subst c9;have H1:((spec_l6Rows.f kj2 l0 a1).bind fun t103=>(if 0≤(l0.length:Int) then (if ((l0.length:Int):Int).toNat≤35184372088832 then (spec_BestChoice.l0 kj2 l0 a1 t103 (List.replicate ((l0.length:Int):Int).toNat 0) a1 (wrap64 ((l0.length:Int) - 1))) else (none)) else (none)))=some (r1,r2,r3):=by rw [if_neg (show ¬ (false=true) by decide)] at H;exact H
     clear H;have H:=H1;clear H1;replace H:=Option.bind_eq_some_iff.mp H;obtain ⟨t103,A100,H⟩:=H;replace H:(if 0≤(l0.length:Int) then (if ((l0.length:Int):Int).toNat≤35184372088832 then (spec_BestChoice.l0 kj2 l0 a1 t103 (List.replicate ((l0.length:Int):Int).toNat 0) a1 (wrap64 ((l0.length:Int) - 1))) else (none)) else (none))=some (r1,r2,r3):=H;have A10:=aM A100;clear A100;by_cases c11:0≤(l0.length:Int)
     ·rw [if_pos c11] at H;have c11b0:=eq_true c11;have c11b1:decide (0≤(l0.length:Int))=true:=decide_eq_true c11;clear c11;by_cases c12:((l0.length:Int):Int).toNat≤35184372088832
      ·rw [if_pos c12] at H;have c12b0:=eq_true c12;have c12b1:decide (((l0.length:Int):Int).toNat≤35184372088832)=true:=decide_eq_true c12;clear c12;obtain ⟨y106,hy106⟩:∃ y_:List Int,y_=(List.replicate ((l0.length:Int):Int).toNat 0):=⟨_,rfl⟩;replace H:(spec_BestChoice.l0 kj2 l0 a1 t103 y106 a1 (wrap64 ((l0.length:Int) - 1)))=some (r1,r2,r3):=by first|(rw [hy106];with_reducible exact H)|(have H2_:=(Option.bind_some _ _).symm.trans H;rw [hy106];with_reducible exact H2_)|(have H2_:=(Option.bind_some _ _).symm.trans H;with_reducible exact H2_)|with_reducible exact H|(rw [hy106];exact H)|exact H
       have Ny106:=aM hy106;clear hy106;have H':=aM H;clear H;go_wp2_with (first|((with_reducible refine Qn (f:=143) rfl ?_);refine goesL_ (some 22) rfl rfl Try.func143 (by kernel_rfl) rfl #[.slice A0 l0.length c0,.int .i64 a1] rfl (by (try simp only [aD,aE,aF]);first|done|rfl|(simp only [aG,aH];rfl)) ?_;(with_reducible refine (spec_l6Rows.calls kj2 _ _ l0 a1 t103 _ ?side1 ?side2 A10.out).mono ?_);(case side1=>repeat (first|exact (Kd.C_below HR0.out HB.out)|(with_reducible refine Kd.Qj ?_ _)|(with_reducible refine Kd.Qk ?_ _)|(with_reducible refine Kd.C_drew ?_)));(case side2=>exact HC0.out);rintro e w13 ⟨v104,rfl,ho0,hb⟩;refine ⟨_,rfl,?_⟩;have n0_:=aM (Kd.N_lower (Kd.N_mono (ok':=fun k_=>True) ho0 (fun k_ hk_=>trivial)) (Qh (by repeat (first|(with_reducible first|exact HB.out|apply Qc|apply Qa|apply Qb)|exact HB.out))));have n1_:=aM (Qi (by repeat (first|(with_reducible first|exact HB.out|apply Qc|apply Qa|apply Qb)|exact HB.out)) hb);clear HB;have HO105:=n0_;have HB:=n1_;clear n0_ n1_;(try clear hb);(try clear hb2);(try clear hk);(try clear hi);(try clear ho0))|((with_reducible refine gate_dst (N:=25) rfl ?_);refine Kd.R_make (Kd.int .i64) _ 3 rfl (N:=25) rfl 23 _ _ rfl (l0.length:Int) rfl rfl Try.underlying23 (.int .i64 0) 8 info3 rfl (by decide) (by omega) 0 (ok:=fun _=>True) (okp:=fun _=>True) rfl (fun _ hk=>hk) trivial (of_decide_eq_true (by first|(with_reducible assumption)|assumption)) (Nat.le_trans (Nat.mul_le_mul_right _ (of_decide_eq_true (by first|(with_reducible assumption)|assumption):(l0.length:Int).toNat≤35184372088832)) (by omega)) (Below.refl _ _) (Nat.le_refl _) ?_;intro v107 w14 ho15 hb hg_ hnew_;clear hg_ hnew_;(first|rw [←Ny106.out] at ho15|(simp only [Int.reduceToNat] at ho15;rw [←Ny106.out] at ho15));have n0_:=aM (Kd.N_elder' (by (with_reducible repeat (first|apply Kd.Ql|apply Kd.Qm|apply Kd.N_drew));exact HO105.out) (Kd.R_base ho15) hb);have n1_:=aM (Kd.R_lower ho15 (Qh (by repeat (first|(with_reducible first|exact HB.out|apply Qc|apply Qa|apply Qb)|exact HB.out))));have n2_:=aM (Qi (by repeat (first|(with_reducible first|exact HB.out|apply Qc|apply Qa|apply Qb)|exact HB.out)) hb);clear HO105;clear HB;have HO105:=n0_;have HO108:=n1_;have HB:=n2_;clear n0_ n1_ n2_;clear hb ho15))
       go_loopg [9,10] kj2 (fun kq v9 v10 w'=>∃ (x8_2:List Int) (x9_2:Int) (x10_2:Int),v9= .int .i64 x9_2∧v10= .int .i64 x10_2∧Aside0 (spec_BestChoice.l0 kq l0 a1 t103 x8_2 x9_2 x10_2=some (r1,r2,r3))∧Aside0 (kq≤kj2)∧Aside0 (Kd.N (Kd.slice 3 (Kd.int .i64)) 23 w' w.heap.size (fun k_=>some k_≠(v107:Value).ownBlock) v104 t103)∧Aside0 (Kd.R (Kd.int .i64) 3 w' w.heap.size (fun _=>True) v107 x8_2)∧Aside0 (Below w.heap.size w w'))
       case atStart=>exact ⟨(y106),(a1),(wrap64 ((l0.length:Int) - 1)),(by first|rfl|(simp;done)|(simp [*];done)),(by first|rfl|(simp;done)|(simp [*];done)),H',⟨Nat.le_refl _⟩,⟨by (with_reducible repeat (first|apply Kd.Ql|apply Kd.Qm|apply Kd.N_drew));exact Kd.N_mono HO105.out (fun _ hk=>hk.2)⟩,⟨by (with_reducible repeat (first|apply Kd.R_alloc|apply Kd.R_drewN|apply Kd.R_drew));exact HO108.out⟩,⟨by repeat (first|(with_reducible first|exact HB.out|apply Qc|apply Qa|apply Qb)|exact HB.out)⟩⟩
       case round=>
        clear H';(try clear c1);(try clear p2);(try clear c4);(try clear c5);(try clear p6);(try clear c9);(try clear c11);(try clear c11b0);(try clear c11b1);(try clear c12);(try clear c12b0);(try clear c12b1);(try clear c14);(try clear p2);obtain ⟨x8_2,x9_2,x10_2,rfl,rfl,HA,HK2,HO_7,HO_8,HB⟩:=hrel
        cases gk with
        |zero=>exact absurd HA.out (by simp [spec_BestChoice.l0])
        |succ k2=>
         have H:=HA.out;clear HA;simp only [spec_BestChoice.l0] at H;by_cases c16:x10_2 ≥ 0
         ·rw [if_pos c16] at H;have c16b0:decide (0≤x10_2)=true:=decide_eq_true c16;clear c16;have H':=aM H;clear H;go_wp2;go_loopg [11] k2 (fun kq v11 w'=>∃ (x11_3:Int),v11= .int .i64 x11_3∧Aside0 (spec_BestChoice.l1 kq l0 a1 t103 x8_2 x9_2 x10_2 x11_3=some (r1,r2,r3))∧Aside0 (kq≤k2)∧Aside0 (Kd.N (Kd.slice 3 (Kd.int .i64)) 23 w' w.heap.size (fun k_=>some k_≠(v107:Value).ownBlock) v104 t103)∧Aside0 (Kd.R (Kd.int .i64) 3 w' w.heap.size (fun _=>True) v107 x8_2)∧Aside0 (Below w.heap.size w w'))
          case atStart=>exact ⟨(0),(by first|rfl|(simp;done)|(simp [*];done)),H',⟨Nat.le_refl _⟩,⟨by (with_reducible repeat (first|apply Kd.Ql|apply Kd.Qm|apply Kd.N_drew));exact HO_7.out⟩,⟨by (with_reducible repeat (first|apply Kd.R_alloc|apply Kd.R_drewN|apply Kd.R_drew));exact HO_8.out⟩,⟨by repeat (first|(with_reducible first|exact HB.out|apply Qc|apply Qa|apply Qb)|exact HB.out)⟩⟩
          case round=>
           clear H';(try clear c1);(try clear p2);(try clear c4);(try clear c5);(try clear p6);(try clear c9);(try clear c11);(try clear c11b0);(try clear c11b1);(try clear c12);(try clear c12b0);(try clear c12b1);(try clear c14);(try clear c16);(try clear c16b0);(try clear p2);(try clear p6);obtain ⟨x11_3,rfl,HA,HK3,HO_7,HO_8,HB⟩:=hrel
           cases gk with
           |zero=>exact absurd HA.out (by simp [spec_BestChoice.l1])
           |succ k3=>
            have H:=HA.out;clear HA;simp only [spec_BestChoice.l1] at H;by_cases c17:0≤x10_2
            ·rw [if_pos c17] at H;have c17b0:decide (0≤x10_2)=true:=decide_eq_true c17;clear c17;by_cases c18:x10_2<(t103.length:Int)
             ·rw [if_pos c18] at H;have c18b0:decide (x10_2<(t103.length:Int))=true:=decide_eq_true c18;clear c18;obtain ⟨ji19,hji19⟩:∃ j_:Int,(wrap64 (x9_2 - x11_3))=j_:=⟨_,rfl⟩;replace H:(if 0≤(ji19) then (if (ji19)<((rd_L2 t103 x10_2).length:Int) then (if x10_2<(l0.length:Int) then ((spec_l6Gain.f ((rd_T53 l0 x10_2).f0) x11_3).bind fun t114=>(if 0≤(wrap64 (x10_2+1)) then (if (wrap64 (x10_2+1))<(t103.length:Int) then (if 0≤x9_2 then (if x9_2<((rd_L2 t103 (wrap64 (x10_2+1))).length:Int) then (if (wrap64 ((rd (rd_L2 t103 x10_2) (ji19))+t114))=(rd (rd_L2 t103 (wrap64 (x10_2+1))) x9_2) then (if x10_2<(x8_2.length:Int) then (spec_BestChoice.l0 k3 l0 a1 t103 (x8_2.set (x10_2:Int).toNat x11_3) ji19 (wrap64 (x10_2 - 1))) else (none)) else (spec_BestChoice.l1 k3 l0 a1 t103 x8_2 x9_2 x10_2 (wrap64 (x11_3+1)))) else (none)) else (none)) else (none)) else (none))) else (none)) else (none)) else (none))=some (r1,r2,r3):=by first|(rw [hji19] at H;exact H)|(simp only [hji19] at H ⊢;exact H)
              have hji19w:(IntKind.i64.wrap (x9_2 - x11_3))=ji19:=(i64_w _).trans hji19;by_cases c20:0≤(ji19)
              ·rw [if_pos c20] at H;have c20b0:decide (0≤(ji19))=true:=decide_eq_true c20;clear c20;by_cases c21:(ji19)<((rd_L2 t103 x10_2).length:Int)
               ·rw [if_pos c21] at H;have c21b0:decide ((ji19)<((rd_L2 t103 x10_2).length:Int))=true:=decide_eq_true c21;clear c21;by_cases c22:x10_2<(l0.length:Int)
                ·rw [if_pos c22] at H;have c22b0:decide (x10_2<(l0.length:Int))=true:=decide_eq_true c22;clear c22;replace H:=Option.bind_eq_some_iff.mp H;obtain ⟨t114,A230,H⟩:=H;replace H:(if 0≤(wrap64 (x10_2+1)) then (if (wrap64 (x10_2+1))<(t103.length:Int) then (if 0≤x9_2 then (if x9_2<((rd_L2 t103 (wrap64 (x10_2+1))).length:Int) then (if (wrap64 ((rd (rd_L2 t103 x10_2) (ji19))+t114))=(rd (rd_L2 t103 (wrap64 (x10_2+1))) x9_2) then (if x10_2<(x8_2.length:Int) then (spec_BestChoice.l0 k3 l0 a1 t103 (x8_2.set (x10_2:Int).toNat x11_3) ji19 (wrap64 (x10_2 - 1))) else (none)) else (spec_BestChoice.l1 k3 l0 a1 t103 x8_2 x9_2 x10_2 (wrap64 (x11_3+1)))) else (none)) else (none)) else (none)) else (none))=some (r1,r2,r3):=H;have A23:=aM A230;clear A230;obtain ⟨ji24,hji24⟩:∃ j_:Int,(wrap64 (x10_2+1))=j_:=⟨_,rfl⟩;replace H:(if 0≤(ji24) then (if (ji24)<(t103.length:Int) then (if 0≤x9_2 then (if x9_2<((rd_L2 t103 (ji24)).length:Int) then (if (wrap64 ((rd (rd_L2 t103 x10_2) (ji19))+t114))=(rd (rd_L2 t103 (ji24)) x9_2) then (if x10_2<(x8_2.length:Int) then (spec_BestChoice.l0 k3 l0 a1 t103 (x8_2.set (x10_2:Int).toNat x11_3) ji19 (wrap64 (x10_2 - 1))) else (none)) else (spec_BestChoice.l1 k3 l0 a1 t103 x8_2 x9_2 x10_2 (wrap64 (x11_3+1)))) else (none)) else (none)) else (none)) else (none))=some (r1,r2,r3):=by first|(rw [hji24] at H;exact H)|(simp only [hji24] at H ⊢;exact H)
                 (try rw [hji24] at A23);have hji24w:(IntKind.i64.wrap (x10_2+1))=ji24:=(i64_w _).trans hji24;by_cases c25:0≤(ji24)
                 ·rw [if_pos c25] at H;have c25b0:decide (0≤(ji24))=true:=decide_eq_true c25;clear c25;by_cases c26:(ji24)<(t103.length:Int)
                  ·rw [if_pos c26] at H;have c26b0:decide ((ji24)<(t103.length:Int))=true:=decide_eq_true c26;clear c26;by_cases c27:0≤x9_2
                   ·rw [if_pos c27] at H;have c27b0:decide (0≤x9_2)=true:=decide_eq_true c27;clear c27;by_cases c28:x9_2<((rd_L2 t103 (ji24)).length:Int)
                    ·rw [if_pos c28] at H;have c28b0:decide (x9_2<((rd_L2 t103 (ji24)).length:Int))=true:=decide_eq_true c28;clear c28;by_cases c29:(wrap64 ((rd (rd_L2 t103 x10_2) (ji19))+t114))=(rd (rd_L2 t103 (ji24)) x9_2)
                     ·rw [if_pos c29] at H;have c29b0:((wrap64 ((rd (rd_L2 t103 x10_2) (ji19))+t114)) == (rd (rd_L2 t103 (ji24)) x9_2))=true:=beq_iff_eq.mpr c29;have c29b1:((wrap64 ((rd (rd_L2 t103 x10_2) (ji19))+t114)) != (rd (rd_L2 t103 (ji24)) x9_2))=false:=bne_eq_false_iff_eq.mpr c29;clear c29;by_cases c30:x10_2<(x8_2.length:Int)
                      ·rw [if_pos c30] at H;have c30b0:decide (x10_2<(x8_2.length:Int))=true:=decide_eq_true c30;clear c30;obtain ⟨y117,hy117⟩:∃ y_:List Int,y_=(x8_2.set (x10_2:Int).toNat x11_3):=⟨_,rfl⟩;replace H:(spec_BestChoice.l0 k3 l0 a1 t103 y117 ji19 (wrap64 (x10_2 - 1)))=some (r1,r2,r3):=by first|(rw [hy117];with_reducible exact H)|(have H2_:=(Option.bind_some _ _).symm.trans H;rw [hy117];with_reducible exact H2_)|(have H2_:=(Option.bind_some _ _).symm.trans H;with_reducible exact H2_)|with_reducible exact H|(rw [hy117];exact H)|exact H
                       have Ny117:=aM hy117;clear hy117;have H':=aM H;clear H
                       try go_wp2
                       have n0_:=aM (Kd.N_drew HO_7.out);have n1_:=aM (Kd.R_drew HO_8.out);have n2_:=aM (Qb HB.out);clear HO_7;clear HO_8;clear HB;have HO_7:=n0_;have HO_8:=n1_;have HB:=n2_;clear n0_ n1_ n2_;obtain ⟨Ao33,co33,eo33⟩:=Kd.N_slice HO_7.out
                       (first|subst eo33|(injection eo33 with f1_ f2_ f3_;have f4_:=f1_.symm;have f5_:=f3_.symm;clear f1_ f2_ f3_;subst f4_;subst f5_))
                       have p111:0≤(x10_2:Int):=of_decide_eq_true (by first|(with_reducible assumption)|assumption);have q111:x10_2<(t103.length:Int):=of_decide_eq_true (by first|(with_reducible assumption)|assumption);obtain ⟨ad111,A111_0,c111_0,e111,hx111_0,hl111_0,hi111_0⟩:=at_L2 (Kd.Qs HO_7.out).2.2 x10_2 p111 q111
                       cases e111
                       obtain ⟨ce111,hce111,hMe111,hcc111⟩:=Kd.N_get HO_7.out [] x10_2 p111 (by first|exact q111|exact of_decide_eq_true (by first|(with_reducible assumption)|assumption)|(have e_:=(Kd.Qs HO_7.out).1;omega));obtain ⟨ua111_0,uc111_0,rfl,ul111_0,ge111_0⟩:=Kd.FK_slice_open hMe111;have hv111_0:=hcc111 0 _ rfl;rw [Nat.add_zero,show ((Kd.slice 3 (Kd.int .i64))).sz=1 from rfl,Nat.mul_one] at hv111_0;replace hv111_0:=Option.some.inj (hv111_0.symm.trans hx111_0)
                       injection hv111_0 with hva_ hvn_ hvc_
                       rw [hva_] at ge111_0;rw [hvc_] at ul111_0;have HL111_0:=aM (show Kd.V (Kd.int .i64) 3 _ w.heap.size _ _ (rd_L2 t103 x10_2) from Kd.V_mk ul111_0 ge111_0);clear hva_ hvn_ hvc_ ge111_0 ul111_0;clear hcc111 hce111;have HR111_0:=aM hi111_0;have HC111_0:=aM hl111_0;clear hi111_0 hl111_0;replace p111:=eq_true p111;replace q111:=eq_true q111;have p112:0≤((ji19):Int):=of_decide_eq_true (by first|(with_reducible assumption)|assumption);have q112:(ji19)<((rd_L2 t103 x10_2).length:Int):=of_decide_eq_true (by first|(with_reducible assumption)|assumption);obtain ⟨ad112,e112,hx112_0⟩:=Kd.at_int (by repeat (first|(with_reducible exact HR111_0.out)|(with_reducible refine Kd.Qj ?_ _)|(with_reducible refine Kd.Qk ?_ _)|(with_reducible refine Kd.C_drew ?_)|exact HR111_0.out)) (ji19) p112 q112
                       cases e112
                       replace p112:=eq_true p112;replace q112:=eq_true q112;have p113:0≤(x10_2:Int):=of_decide_eq_true (by first|(with_reducible assumption)|assumption);have q113:x10_2<(l0.length:Int):=of_decide_eq_true (by first|(with_reducible assumption)|assumption);obtain ⟨ad113,A113_0,c113_0,e113,hx113_0,hl113_0,hi113_0⟩:=at_T53 HR0.out x10_2 p113 q113;have hw113_0:=hx113_0
                       cases e113
                       replace hx113_0:=(HB.out.cell (aI w _ hx113_0)).trans hx113_0;have HR113_0:=aM hi113_0;have HC113_0:=aM hl113_0;clear hi113_0 hl113_0;replace p113:=eq_true p113;replace q113:=eq_true q113;have p115:0≤((ji24):Int):=of_decide_eq_true (by first|(with_reducible assumption)|assumption);have q115:(ji24)<(t103.length:Int):=of_decide_eq_true (by first|(with_reducible assumption)|assumption);obtain ⟨ad115,A115_0,c115_0,e115,hx115_0,hl115_0,hi115_0⟩:=at_L2 (Kd.Qs HO_7.out).2.2 (ji24) p115 q115;obtain rfl:ad111=ad115:=(by injection e115);obtain ⟨ce115,hce115,hMe115,hcc115⟩:=Kd.N_get HO_7.out [] (ji24) p115 (by first|exact q115|exact of_decide_eq_true (by first|(with_reducible assumption)|assumption)|(have e_:=(Kd.Qs HO_7.out).1;omega));obtain ⟨ua115_0,uc115_0,rfl,ul115_0,ge115_0⟩:=Kd.FK_slice_open hMe115;have hv115_0:=hcc115 0 _ rfl;rw [Nat.add_zero,show ((Kd.slice 3 (Kd.int .i64))).sz=1 from rfl,Nat.mul_one] at hv115_0;replace hv115_0:=Option.some.inj (hv115_0.symm.trans hx115_0)
                       injection hv115_0 with hva_ hvn_ hvc_
                       rw [hva_] at ge115_0;rw [hvc_] at ul115_0;have HL115_0:=aM (show Kd.V (Kd.int .i64) 3 _ w.heap.size _ _ (rd_L2 t103 (ji24)) from Kd.V_mk ul115_0 ge115_0);clear hva_ hvn_ hvc_ ge115_0 ul115_0;clear hcc115 hce115;have HR115_0:=aM hi115_0;have HC115_0:=aM hl115_0;clear hi115_0 hl115_0;replace p115:=eq_true p115;replace q115:=eq_true q115;have p116:0≤(x9_2:Int):=of_decide_eq_true (by first|(with_reducible assumption)|assumption);have q116:x9_2<((rd_L2 t103 (ji24)).length:Int):=of_decide_eq_true (by first|(with_reducible assumption)|assumption);obtain ⟨ad116,e116,hx116_0⟩:=Kd.at_int (by repeat (first|(with_reducible exact HR115_0.out)|(with_reducible refine Kd.Qj ?_ _)|(with_reducible refine Kd.Qk ?_ _)|(with_reducible refine Kd.C_drew ?_)|exact HR115_0.out)) x9_2 p116 q116
                       cases e116
                       replace p116:=eq_true p116;replace q116:=eq_true q116;refine start_ (n:=25) (S:=fun w'=>w'.cell? (ad111.add (x10_2).toNat)=some (.slice (some ad112) (rd_L2 t103 x10_2).length c111_0)∧w'.cell? (ad112.add ((ji19)).toNat)=some (.int .i64 (rd (rd_L2 t103 x10_2) (ji19)))∧w'.cell? (ad113.add (x10_2).toNat)=some (.slice A113_0 ((rd_T53 l0 x10_2).f0).length c113_0)∧w'.cell? (ad111.add ((ji24)).toNat)=some (.slice (some ad116) (rd_L2 t103 (ji24)).length c115_0)∧w'.cell? (ad116.add (x9_2).toNat)=some (.int .i64 (rd (rd_L2 t103 (ji24)) x9_2))) (ds:=[]) #[false,false,false,false,false,false,false,false,false,false,false,false,false,false,false,false,false,false,false,false,false,false,false,false,false] (by kernel_rfl) rfl rfl ⟨hx111_0,hx112_0,((HB.out.cell (aI w _ hw113_0)).trans hw113_0),hx115_0,hx116_0⟩ (fun hHeld=>?_);refine with_tabW spec_BestChoice.tab10 spec_BestChoice.bits10 (fun HT_ HW_=>?_)
                       generalize wr.drew=w32 at HO_7 HO_8 HB HL111_0 HL115_0 HR111_0 HR113_0 HR115_0 hx111_0 hx112_0 hx113_0 hx115_0 hx116_0 hHeld ⊢
                       refine pure_ (i:=0) (N:=some 34) (v:=?_) (a':=?_) #[true,false,false,false,false,false,false,false,false,false,false,false,false,false,false,false,false,false,false,false,false,false,false,false,false] rfl rfl (any_of HT_.out (by kernel_rfl)) (fun _ _ _ h=>h) (Or.inl ⟨by rfl,?_⟩) ?_ ?_
                       rotate_left
                       ·intro w'
                        go_simp
                        with_reducible rfl
                       rotate_left
                       ·simp only [Act.put,aA,aB,aC,i64_w,i32_w]
                        rfl
                       refine pure_ (i:=1) (N:=some 35) (v:=?_) (a':=?_) #[true,true,false,false,false,false,false,false,false,false,false,false,false,false,false,false,false,false,false,false,false,false,false,false,false] rfl rfl (any_of HT_.out (by kernel_rfl)) (fun _ _ _ h=>h) (Or.inl ⟨by rfl,?_⟩) ?_ ?_
                       rotate_left
                       ·intro w'
                        go_simp
                        with_reducible rfl
                       rotate_left
                       ·simp only [Act.put,aA,aB,aC,i64_w,i32_w]
                        rfl
                       refine pure_ (i:=2) (N:=some 36) (v:=?_) (a':=?_) #[true,true,true,false,false,false,false,false,false,false,false,false,false,false,false,false,false,false,false,false,false,false,false,false,false] rfl rfl (any_of HT_.out (by kernel_rfl)) (fun _ _ _ h=>h) (Or.inl ⟨by rfl,?_⟩) ?_ ?_
                       rotate_left
                       ·intro w'
                        go_simp
                        with_reducible rfl
                       rotate_left
                       ·simp only [Act.put,aA,aB,aC,i64_w,i32_w]
                        rfl
                       refine pure_ (i:=4) (N:=some 38) (v:=?_) (a':=?_) #[true,true,true,false,true,false,false,false,false,false,false,false,false,false,false,false,false,false,false,false,false,false,false,false,false] rfl rfl (any_of HT_.out (by kernel_rfl)) (fun _ _ _ h=>h) (Or.inl ⟨by rfl,?_⟩) ?_ ?_
                       rotate_left
                       ·intro w'
                        go_simp
                        with_reducible rfl
                       rotate_left
                       ·simp only [Act.put,aA,aB,aC,i64_w,i32_w]
                        rfl
                       refine pure_ (i:=5) (N:=some 39) (v:=?_) (a':=?_) #[true,true,true,false,true,true,false,false,false,false,false,false,false,false,false,false,false,false,false,false,false,false,false,false,false] rfl rfl (any_of HT_.out (by kernel_rfl)) (fun _ _ _ h=>h) (Or.inl ⟨by rfl,?_⟩) ?_ ?_
                       rotate_left
                       ·intro w'
                        go_simp
                        with_reducible rfl
                       rotate_left
                       ·simp only [Act.put,aA,aB,aC,i64_w,i32_w]
                        rfl
                       refine pure_ (i:=6) (N:=some 40) (v:=?_) (a':=?_) #[true,true,true,false,true,true,true,false,false,false,false,false,false,false,false,false,false,false,false,false,false,false,false,false,false] rfl rfl (any_of HT_.out (by kernel_rfl)) (fun _ _ _ h=>h) (Or.inl ⟨by rfl,?_⟩) ?_ ?_
                       rotate_left
                       ·intro w'
                        go_simp
                        with_reducible rfl
                       rotate_left
                       ·simp only [Act.put,aA,aB,aC,i64_w,i32_w]
                        rfl
                       refine pure_ (i:=9) (N:=some 43) (v:=?_) (a':=?_) #[true,true,true,false,true,true,true,false,false,true,false,false,false,false,false,false,false,false,false,false,false,false,false,false,false] rfl rfl (any_of HT_.out (by kernel_rfl)) (fun _ _ _ h=>h) (Or.inl ⟨by rfl,?_⟩) ?_ ?_
                       rotate_left
                       ·intro w'
                        go_simp
                        with_reducible rfl
                       rotate_left
                       ·simp only [Act.put,aA,aB,aC,i64_w,i32_w]
                        rfl
                       refine pure_ (i:=10) (N:=some 44) (v:=?_) (a':=?_) #[true,true,true,false,true,true,true,false,false,true,true,false,false,false,false,false,false,false,false,false,false,false,false,false,false] rfl rfl (any_of HT_.out (by kernel_rfl)) (fun _ _ _ h=>h) (Or.inl ⟨by rfl,?_⟩) ?_ ?_
                       rotate_left
                       ·intro w'
                        go_simp
                        with_reducible rfl
                       rotate_left
                       ·simp only [Act.put,aA,aB,aC,i64_w,i32_w]
                        rfl
                       refine pure_ (i:=11) (N:=some 45) (v:=?_) (a':=?_) #[true,true,true,false,true,true,true,false,false,true,true,true,false,false,false,false,false,false,false,false,false,false,false,false,false] rfl rfl (any_of HT_.out (by kernel_rfl)) (fun _ _ _ h=>h) (Or.inl ⟨by rfl,?_⟩) ?_ ?_
                       rotate_left
                       ·intro w'
                        go_simp
                        with_reducible rfl
                       rotate_left
                       ·simp only [Act.put,aA,aB,aC,i64_w,i32_w]
                        rfl
                       refine pure_ (i:=13) (N:=some 47) (v:=?_) (a':=?_) #[true,true,true,false,true,true,true,false,false,true,true,true,false,true,false,false,false,false,false,false,false,false,false,false,false] rfl rfl (any_of HT_.out (by kernel_rfl)) (fun _ _ _ h=>h) (Or.inl ⟨by rfl,?_⟩) ?_ ?_
                       rotate_left
                       ·intro w'
                        go_simp
                        with_reducible rfl
                       rotate_left
                       ·simp only [Act.put,aA,aB,aC,i64_w,i32_w]
                        rfl
                       refine pure_ (i:=16) (N:=some 50) (v:=?_) (a':=?_) #[true,true,true,false,true,true,true,false,false,true,true,true,false,true,false,false,true,false,false,false,false,false,false,false,false] rfl rfl (any_of HT_.out (by kernel_rfl)) (fun _ _ _ h=>h) (Or.inl ⟨by rfl,?_⟩) ?_ ?_
                       rotate_left
                       ·intro w'
                        go_simp
                        with_reducible rfl
                       rotate_left
                       ·simp only [Act.put,aA,aB,aC,i64_w,i32_w]
                        rfl
                       refine pure_ (i:=17) (N:=some 51) (v:=?_) (a':=?_) #[true,true,true,false,true,true,true,false,false,true,true,true,false,true,false,false,true,true,false,false,false,false,false,false,false] rfl rfl (any_of HT_.out (by kernel_rfl)) (fun _ _ _ h=>h) (Or.inl ⟨by rfl,?_⟩) ?_ ?_
                       rotate_left
                       ·intro w'
                        go_simp
                        with_reducible rfl
                       rotate_left
                       ·simp only [Act.put,aA,aB,aC,i64_w,i32_w]
                        rfl
                       refine pure_ (i:=18) (N:=some 52) (v:=?_) (a':=?_) #[true,true,true,false,true,true,true,false,false,true,true,true,false,true,false,false,true,true,true,false,false,false,false,false,false] rfl rfl (any_of HT_.out (by kernel_rfl)) (fun _ _ _ h=>h) (Or.inl ⟨by rfl,?_⟩) ?_ ?_
                       rotate_left
                       ·intro w'
                        go_simp
                        with_reducible rfl
                       rotate_left
                       ·simp only [Act.put,aA,aB,aC,i64_w,i32_w]
                        rfl
                       refine pure_ (i:=19) (N:=some 53) (v:=?_) (a':=?_) #[true,true,true,false,true,true,true,false,false,true,true,true,false,true,false,false,true,true,true,true,false,false,false,false,false] rfl rfl (any_of HT_.out (by kernel_rfl)) (fun _ _ _ h=>h) (Or.inl ⟨by rfl,?_⟩) ?_ ?_
                       rotate_left
                       ·intro w'
                        go_simp
                        with_reducible rfl
                       rotate_left
                       ·simp only [Act.put,aA,aB,aC,i64_w,i32_w]
                        rfl
                       refine pure_ (i:=21) (N:=some 55) (v:=?_) (a':=?_) #[true,true,true,false,true,true,true,false,false,true,true,true,false,true,false,false,true,true,true,true,false,true,false,false,false] rfl rfl (any_of HT_.out (by kernel_rfl)) (fun _ _ _ h=>h) (Or.inl ⟨by rfl,?_⟩) ?_ ?_
                       rotate_left
                       ·intro w'
                        go_simp
                        with_reducible rfl
                       rotate_left
                       ·simp only [Act.put,aA,aB,aC,i64_w,i32_w]
                        rfl
                       refine take_ (i:=3) (N:=some 37) (v:=?_) (a':=?_) #[true,true,true,true,true,true,true,false,false,true,true,true,false,true,false,false,true,true,true,true,false,true,false,false,false] rfl rfl (take_ofW HT_.out HW_.out (by kernel_rfl)) (fun _ _ _ h=>h) (Or.inl ⟨by rfl,?_⟩) hHeld ?_ ?_
                       rotate_left
                       ·rintro w' ⟨s0,s1,s2,s3,s4⟩
                        go_simp
                        with_reducible rfl
                       rotate_left
                       ·simp only [Act.put,aA,aB,aC,i64_w,i32_w]
                        rfl
                       refine pure_ (i:=7) (N:=some 41) (v:=?_) (a':=?_) #[true,true,true,true,true,true,true,true,false,true,true,true,false,true,false,false,true,true,true,true,false,true,false,false,false] rfl rfl (any_of HT_.out (by kernel_rfl)) (fun _ _ _ h=>h) (Or.inl ⟨by rfl,?_⟩) ?_ ?_
                       rotate_left
                       ·intro w'
                        go_simp
                        with_reducible rfl
                       rotate_left
                       ·simp only [Act.put,aA,aB,aC,i64_w,i32_w]
                        rfl
                       refine take_ (i:=8) (N:=some 42) (v:=?_) (a':=?_) #[true,true,true,true,true,true,true,true,true,true,true,true,false,true,false,false,true,true,true,true,false,true,false,false,false] rfl rfl (take_ofW HT_.out HW_.out (by kernel_rfl)) (fun _ _ _ h=>h) (Or.inl ⟨by rfl,?_⟩) hHeld ?_ ?_
                       rotate_left
                       ·rintro w' ⟨s0,s1,s2,s3,s4⟩
                        go_simp
                        with_reducible rfl
                       rotate_left
                       ·simp only [Act.put,aA,aB,aC,i64_w,i32_w]
                        rfl
                       refine take_ (i:=12) (N:=some 46) (v:=?_) (a':=?_) #[true,true,true,true,true,true,true,true,true,true,true,true,true,true,false,false,true,true,true,true,false,true,false,false,false] rfl rfl (take_ofW HT_.out HW_.out (by kernel_rfl)) (fun _ _ _ h=>h) (Or.inl ⟨by rfl,?_⟩) hHeld ?_ ?_
                       rotate_left
                       ·rintro w' ⟨s0,s1,s2,s3,s4⟩
                        go_simp
                        with_reducible rfl
                       rotate_left
                       ·simp only [Act.put,aA,aB,aC,i64_w,i32_w]
                        rfl
                       refine take_ (i:=20) (N:=some 54) (v:=?_) (a':=?_) #[true,true,true,true,true,true,true,true,true,true,true,true,true,true,false,false,true,true,true,true,true,true,false,false,false] rfl rfl (take_ofW HT_.out HW_.out (by kernel_rfl)) (fun _ _ _ h=>h) (Or.inl ⟨by rfl,?_⟩) hHeld ?_ ?_
                       rotate_left
                       ·rintro w' ⟨s0,s1,s2,s3,s4⟩
                        go_simp
                        with_reducible rfl
                       rotate_left
                       ·simp only [Act.put,aA,aB,aC,i64_w,i32_w]
                        rfl
                       refine pure_ (i:=22) (N:=some 56) (v:=?_) (a':=?_) #[true,true,true,true,true,true,true,true,true,true,true,true,true,true,false,false,true,true,true,true,true,true,true,false,false] rfl rfl (any_of HT_.out (by kernel_rfl)) (fun _ _ _ h=>h) (Or.inl ⟨by rfl,?_⟩) ?_ ?_
                       rotate_left
                       ·intro w'
                        go_simp
                        with_reducible rfl
                       rotate_left
                       ·simp only [Act.put,aA,aB,aC,i64_w,i32_w]
                        rfl
                       refine take_ (i:=23) (N:=some 57) (v:=?_) (a':=?_) #[true,true,true,true,true,true,true,true,true,true,true,true,true,true,false,false,true,true,true,true,true,true,true,true,false] rfl rfl (take_ofW HT_.out HW_.out (by kernel_rfl)) (fun _ _ _ h=>h) (Or.inl ⟨by rfl,?_⟩) hHeld ?_ ?_
                       rotate_left
                       ·rintro w' ⟨s0,s1,s2,s3,s4⟩
                        go_simp
                        with_reducible rfl
                       rotate_left
                       ·simp only [Act.put,aA,aB,aC,i64_w,i32_w]
                        rfl
                       refine one_ (i:=14) (N:=some 48) #[true,true,true,true,true,true,true,true,true,true,true,true,true,true,true,false,true,true,true,true,true,true,true,true,false] rfl rfl (one_of HT_.out (by kernel_rfl)) (by decide) (fun K hK=>?_)
                       first|(refine goes_ Try.func147 (by kernel_rfl) rfl #[.agg #[.slice A113_0 ((rd_T53 l0 x10_2).f0).length c113_0],.int .i64 x11_3] (by rfl) rfl rfl (by (try simp only [aD,aE,aF]);first|done|rfl|(simp only [aG,aH];rfl)) ?_)|(refine call_ 147 #[.agg #[.slice A113_0 ((rd_T53 l0 x10_2).f0).length c113_0],.int .i64 x11_3] (by rfl) rfl (by unfold execOp;simp [resolve,Deferred.ofValue,invoke,Act.eval,enters_ Try.func147 (by kernel_rfl) rfl]) ?_)
                       with_reducible refine (spec_l6Gain.calls _ _ ((rd_T53 l0 x10_2).f0) x11_3 t114 _ ?side1 ?side2 A23.out).mono ?_
                       (case side1=>repeat (first|exact (Kd.C_below HR113_0.out HB.out)|(with_reducible refine Kd.Qj ?_ _)|(with_reducible refine Kd.Qk ?_ _)|(with_reducible refine Kd.C_drew ?_)))
                       (case side2=>exact HC113_0.out)
                       rintro e w34 ⟨rfl,hb⟩
                       have HS0_:=(hb.cell (aI _ _ (hHeld.1))).trans (hHeld.1);have HS1_:=(hb.cell (aI _ _ (hHeld.2.1))).trans (hHeld.2.1);have HS3_:=(hb.cell (aI _ _ (hHeld.2.2.2.1))).trans (hHeld.2.2.2.1);have HS4_:=(hb.cell (aI _ _ (hHeld.2.2.2.2))).trans (hHeld.2.2.2.2);refine ⟨_,rfl,?_⟩;have n0_:=aM (Kd.N_below (by (with_reducible repeat (first|apply Kd.Ql|apply Kd.Qm|apply Kd.N_drew));exact HO_7.out) hb);have n1_:=aM (Kd.R_below (by (with_reducible repeat (first|apply Kd.R_alloc|apply Kd.R_drewN|apply Kd.R_drew));exact HO_8.out) hb);have n2_:=aM (Kd.V_below (by (with_reducible repeat (first|apply Kd.V_alloc|apply Kd.V_drewN|apply Kd.V_drew));exact HL111_0.out) hb);have n3_:=aM (Kd.V_below (by (with_reducible repeat (first|apply Kd.V_alloc|apply Kd.V_drewN|apply Kd.V_drew));exact HL115_0.out) hb);have n4_:=aM (Kd.C_below (by repeat (first|(with_reducible exact HR111_0.out)|(with_reducible refine Kd.Qj ?_ _)|(with_reducible refine Kd.Qk ?_ _)|(with_reducible refine Kd.C_drew ?_)|exact HR111_0.out)) hb);have n5_:=aM (Kd.C_below (by repeat (first|(with_reducible exact HR115_0.out)|(with_reducible refine Kd.Qj ?_ _)|(with_reducible refine Kd.Qk ?_ _)|(with_reducible refine Kd.C_drew ?_)|exact HR115_0.out)) hb);have n6_:=aM (Qi (by repeat (first|(with_reducible first|exact HB.out|apply Qc|apply Qa|apply Qb)|exact HB.out)) hb);clear HO_7;clear HO_8;clear HL111_0;clear HL115_0;clear HR111_0;clear HR115_0;clear HB;have HO_7:=n0_;have HO_8:=n1_;have HL111_0:=n2_;have HL115_0:=n3_;have HR111_0:=n4_;have HR115_0:=n5_;have HB:=n6_;clear n0_ n1_ n2_ n3_ n4_ n5_ n6_;(try clear hb);(try clear hb2);(try clear hk);(try clear hi);refine hK.out _ _ ⟨HS0_,HS1_,((HB.out.cell (aI w _ hw113_0)).trans hw113_0),HS3_,HS4_⟩ (fun hHeld=>?_);clear hK K;refine norm_ (a':=?_) ?_ ?_
                       rotate_left
                       ·show Act.put _ (some 48) _=_
                        simp only [Act.put,aA,aB,aC,i64_w,i32_w]
                        rfl
                       refine pure_ (i:=15) (N:=some 49) (v:=?_) (a':=?_) #[true,true,true,true,true,true,true,true,true,true,true,true,true,true,true,true,true,true,true,true,true,true,true,true,false] rfl rfl (any_of HT_.out (by kernel_rfl)) (fun _ _ _ h=>h) (Or.inl ⟨by rfl,?_⟩) ?_ ?_
                       rotate_left
                       ·intro w'
                        go_simp
                        with_reducible rfl
                       rotate_left
                       ·simp only [Act.put,aA,aB,aC,i64_w,i32_w]
                        rfl
                       refine pure_ (i:=24) (N:=some 58) (v:=?_) (a':=?_) #[true,true,true,true,true,true,true,true,true,true,true,true,true,true,true,true,true,true,true,true,true,true,true,true,true] rfl rfl (any_of HT_.out (by kernel_rfl)) (fun _ _ _ h=>h) (Or.inl ⟨by rfl,?_⟩) ?_ ?_
                       rotate_left
                       ·intro w'
                        go_simp
                        with_reducible rfl
                       rotate_left
                       ·simp only [Act.put,aA,aB,aC,i64_w,i32_w]
                        rfl
                       refine done_ (done_of HT_.out (by kernel_rfl)) ?_;have p31:0≤(x10_2:Int):=of_decide_eq_true (by first|(with_reducible assumption)|assumption);have q31:(x10_2:Int)<((x8_2.length:Int):Int):=of_decide_eq_true (by first|(with_reducible assumption)|assumption);obtain ⟨go31,co31,eo31,gb31,gl31,cl31,HG31⟩:=Kd.R_form HO_8.out (by omega)
                       (first|cases eo31|(injection eo31 with ea_ en_ ec_;(first|subst ea_|(injection ea_ with ea_;subst ea_));subst ec_;clear en_))
                       have GB31:=aM gb31;have GG31:=aM HG31;clear gb31 gl31 HG31;obtain ⟨hx31_0,hf31_0⟩:=Kd.R_celln 0 HO_8.out (x10_2:Int) p31 q31;replace p31:=eq_true p31;replace q31:=eq_true q31;obtain ⟨hy35_,hz35_⟩:=Kd.R_celln 0 HO_8.out (x10_2:Int) (of_decide_eq_true (by first|(with_reducible assumption)|assumption)) (of_decide_eq_true (by first|(with_reducible assumption)|assumption));have HP35:=Kd.R_putg HO_8.out (x10_2:Int) x11_3
                       try go_wp2_with (first|((with_reducible refine gate_store (t:=3) (p:=64) rfl ?_);refine store_event (t:=3) (p:=64) (v:=?vo_w36) (w1:=(w34.setCell ⟨go31,(x10_2:Int).toNat,none⟩ (.int .i64 x11_3))) ?hg ?ho ?hn ?hr ?_;(case ho=>rfl);(case hg=>rfl);(case hn=>rfl);(case hr=>first|(go_simp;done)|(go_simp;rfl));intro w36 hw;have hg:w34.grownBy w36 (some go31):=(by rw [hw];exact HP35.2);have hp_:Kd.R (Kd.int .i64) 3 w36 w.heap.size (fun _=>True) (.slice (some ⟨go31,0,none⟩) x8_2.length co31) y117:=(by rw [hw,Ny117.out];exact HP35.1);clear HP35;have n0_:=aM (Kd.N_afterv (v:=(.slice (some ⟨go31,0,none⟩) x8_2.length co31)) (v1:=(.slice (some ⟨go31,0,none⟩) x8_2.length co31)) (ok:=(fun _=>True)) (by (with_reducible repeat (first|apply Kd.Ql|apply Kd.Qm|apply Kd.N_drew));exact Kd.N_mono HO_7.out (fun _ hk=>⟨trivial,hk⟩)) hg (.inl rfl));have n1_:=aM (hp_);have n2_:=aM (Kd.V_afterv (v:=(.slice (some ⟨go31,0,none⟩) x8_2.length co31)) (v1:=(.slice (some ⟨go31,0,none⟩) x8_2.length co31)) (ok:=(fun k_=>some k_≠(.slice (some ad111) t103.length co33:Value).ownBlock)) (by (with_reducible repeat (first|apply Kd.V_alloc|apply Kd.V_drewN|apply Kd.V_drew));exact Kd.V_mono HL111_0.out (fun _ hk=>⟨hk.2,hk.1⟩)) hg (.inl rfl));have n3_:=aM (Kd.V_afterv (v:=(.slice (some ⟨go31,0,none⟩) x8_2.length co31)) (v1:=(.slice (some ⟨go31,0,none⟩) x8_2.length co31)) (ok:=(fun k_=>some k_≠(.slice (some ad111) t103.length co33:Value).ownBlock)) (by (with_reducible repeat (first|apply Kd.V_alloc|apply Kd.V_drewN|apply Kd.V_drew));exact Kd.V_mono HL115_0.out (fun _ hk=>⟨hk.2,hk.1⟩)) hg (.inl rfl));have n4_:=aM ((by rw [hw];exact Qd (HB.out) GB31.out:Below w.heap.size w w36));clear HO_7;clear HO_8;clear HL111_0;clear HL115_0;clear HB;have HO_7:=n0_;have HO_8:=n1_;have HL111_0:=n2_;have HL115_0:=n3_;have HB:=n4_;clear n0_ n1_ n2_ n3_ n4_;clear hg hw hp_))
                       go_roundg k3
                       case measure=>have:=HJ2.out;have:=HK2.out;have:=HK3.out;omega
                       case rel=>exact ⟨(y117),(ji19),(wrap64 (x10_2 - 1)),(by first|rfl|(simp;done)|(simp only [←hji19] <;> (first|rfl|simp))|(simp [*];done)),(by first|rfl|(simp;done)|(simp [*];done)),H',⟨by have:=HJ2.out;have:=HK2.out;have:=HK3.out;omega⟩,⟨by (with_reducible repeat (first|apply Kd.Ql|apply Kd.Qm|apply Kd.N_drew));exact Kd.N_mono HO_7.out (fun _ hk=>hk.2)⟩,⟨by (with_reducible repeat (first|apply Kd.R_alloc|apply Kd.R_drewN|apply Kd.R_drew));exact HO_8.out⟩,⟨by repeat (first|(with_reducible first|exact HB.out|apply Qc|apply Qa|apply Qb)|exact HB.out)⟩⟩
                      ·rw [if_neg c30] at H;exact absurd H (by simp)
                     ·rw [if_neg c29] at H;have c29b0:((wrap64 ((rd (rd_L2 t103 x10_2) (ji19))+t114)) == (rd (rd_L2 t103 (ji24)) x9_2))=false:=beq_eq_false_iff_ne.mpr c29;have c29b1:((wrap64 ((rd (rd_L2 t103 x10_2) (ji19))+t114)) != (rd (rd_L2 t103 (ji24)) x9_2))=true:=bne_iff_ne.mpr c29;have H':=aM H;clear H
                      try go_wp2
                      have n0_:=aM (Kd.N_drew HO_7.out);have n1_:=aM (Kd.R_drew HO_8.out);have n2_:=aM (Qb HB.out);clear HO_7;clear HO_8;clear HB;have HO_7:=n0_;have HO_8:=n1_;have HB:=n2_;clear n0_ n1_ n2_;obtain ⟨Ao38,co38,eo38⟩:=Kd.N_slice HO_7.out
                      (first|subst eo38|(injection eo38 with f1_ f2_ f3_;have f4_:=f1_.symm;have f5_:=f3_.symm;clear f1_ f2_ f3_;subst f4_;subst f5_))
                      have p111:0≤(x10_2:Int):=of_decide_eq_true (by first|(with_reducible assumption)|assumption);have q111:x10_2<(t103.length:Int):=of_decide_eq_true (by first|(with_reducible assumption)|assumption);obtain ⟨ad111,A111_0,c111_0,e111,hx111_0,hl111_0,hi111_0⟩:=at_L2 (Kd.Qs HO_7.out).2.2 x10_2 p111 q111
                      cases e111
                      obtain ⟨ce111,hce111,hMe111,hcc111⟩:=Kd.N_get HO_7.out [] x10_2 p111 (by first|exact q111|exact of_decide_eq_true (by first|(with_reducible assumption)|assumption)|(have e_:=(Kd.Qs HO_7.out).1;omega));obtain ⟨ua111_0,uc111_0,rfl,ul111_0,ge111_0⟩:=Kd.FK_slice_open hMe111;have hv111_0:=hcc111 0 _ rfl;rw [Nat.add_zero,show ((Kd.slice 3 (Kd.int .i64))).sz=1 from rfl,Nat.mul_one] at hv111_0;replace hv111_0:=Option.some.inj (hv111_0.symm.trans hx111_0)
                      injection hv111_0 with hva_ hvn_ hvc_
                      rw [hva_] at ge111_0;rw [hvc_] at ul111_0;have HL111_0:=aM (show Kd.V (Kd.int .i64) 3 _ w.heap.size _ _ (rd_L2 t103 x10_2) from Kd.V_mk ul111_0 ge111_0);clear hva_ hvn_ hvc_ ge111_0 ul111_0;clear hcc111 hce111;have HR111_0:=aM hi111_0;have HC111_0:=aM hl111_0;clear hi111_0 hl111_0;replace p111:=eq_true p111;replace q111:=eq_true q111;have p112:0≤((ji19):Int):=of_decide_eq_true (by first|(with_reducible assumption)|assumption);have q112:(ji19)<((rd_L2 t103 x10_2).length:Int):=of_decide_eq_true (by first|(with_reducible assumption)|assumption);obtain ⟨ad112,e112,hx112_0⟩:=Kd.at_int (by repeat (first|(with_reducible exact HR111_0.out)|(with_reducible refine Kd.Qj ?_ _)|(with_reducible refine Kd.Qk ?_ _)|(with_reducible refine Kd.C_drew ?_)|exact HR111_0.out)) (ji19) p112 q112
                      cases e112
                      replace p112:=eq_true p112;replace q112:=eq_true q112;have p113:0≤(x10_2:Int):=of_decide_eq_true (by first|(with_reducible assumption)|assumption);have q113:x10_2<(l0.length:Int):=of_decide_eq_true (by first|(with_reducible assumption)|assumption);obtain ⟨ad113,A113_0,c113_0,e113,hx113_0,hl113_0,hi113_0⟩:=at_T53 HR0.out x10_2 p113 q113;have hw113_0:=hx113_0
                      cases e113
                      replace hx113_0:=(HB.out.cell (aI w _ hx113_0)).trans hx113_0;have HR113_0:=aM hi113_0;have HC113_0:=aM hl113_0;clear hi113_0 hl113_0;replace p113:=eq_true p113;replace q113:=eq_true q113;have p115:0≤((ji24):Int):=of_decide_eq_true (by first|(with_reducible assumption)|assumption);have q115:(ji24)<(t103.length:Int):=of_decide_eq_true (by first|(with_reducible assumption)|assumption);obtain ⟨ad115,A115_0,c115_0,e115,hx115_0,hl115_0,hi115_0⟩:=at_L2 (Kd.Qs HO_7.out).2.2 (ji24) p115 q115;obtain rfl:ad111=ad115:=(by injection e115);obtain ⟨ce115,hce115,hMe115,hcc115⟩:=Kd.N_get HO_7.out [] (ji24) p115 (by first|exact q115|exact of_decide_eq_true (by first|(with_reducible assumption)|assumption)|(have e_:=(Kd.Qs HO_7.out).1;omega));obtain ⟨ua115_0,uc115_0,rfl,ul115_0,ge115_0⟩:=Kd.FK_slice_open hMe115;have hv115_0:=hcc115 0 _ rfl;rw [Nat.add_zero,show ((Kd.slice 3 (Kd.int .i64))).sz=1 from rfl,Nat.mul_one] at hv115_0;replace hv115_0:=Option.some.inj (hv115_0.symm.trans hx115_0)
                      injection hv115_0 with hva_ hvn_ hvc_
                      rw [hva_] at ge115_0;rw [hvc_] at ul115_0;have HL115_0:=aM (show Kd.V (Kd.int .i64) 3 _ w.heap.size _ _ (rd_L2 t103 (ji24)) from Kd.V_mk ul115_0 ge115_0);clear hva_ hvn_ hvc_ ge115_0 ul115_0;clear hcc115 hce115;have HR115_0:=aM hi115_0;have HC115_0:=aM hl115_0;clear hi115_0 hl115_0;replace p115:=eq_true p115;replace q115:=eq_true q115;have p116:0≤(x9_2:Int):=of_decide_eq_true (by first|(with_reducible assumption)|assumption);have q116:x9_2<((rd_L2 t103 (ji24)).length:Int):=of_decide_eq_true (by first|(with_reducible assumption)|assumption);obtain ⟨ad116,e116,hx116_0⟩:=Kd.at_int (by repeat (first|(with_reducible exact HR115_0.out)|(with_reducible refine Kd.Qj ?_ _)|(with_reducible refine Kd.Qk ?_ _)|(with_reducible refine Kd.C_drew ?_)|exact HR115_0.out)) x9_2 p116 q116
                      cases e116
                      replace p116:=eq_true p116;replace q116:=eq_true q116;refine start_ (n:=25) (S:=fun w'=>w'.cell? (ad111.add (x10_2).toNat)=some (.slice (some ad112) (rd_L2 t103 x10_2).length c111_0)∧w'.cell? (ad112.add ((ji19)).toNat)=some (.int .i64 (rd (rd_L2 t103 x10_2) (ji19)))∧w'.cell? (ad113.add (x10_2).toNat)=some (.slice A113_0 ((rd_T53 l0 x10_2).f0).length c113_0)∧w'.cell? (ad111.add ((ji24)).toNat)=some (.slice (some ad116) (rd_L2 t103 (ji24)).length c115_0)∧w'.cell? (ad116.add (x9_2).toNat)=some (.int .i64 (rd (rd_L2 t103 (ji24)) x9_2))) (ds:=[]) #[false,false,false,false,false,false,false,false,false,false,false,false,false,false,false,false,false,false,false,false,false,false,false,false,false] (by kernel_rfl) rfl rfl ⟨hx111_0,hx112_0,((HB.out.cell (aI w _ hw113_0)).trans hw113_0),hx115_0,hx116_0⟩ (fun hHeld=>?_);refine with_tabW spec_BestChoice.tab10 spec_BestChoice.bits10 (fun HT_ HW_=>?_)
                      generalize wr.drew=w37 at HO_7 HO_8 HB HL111_0 HL115_0 HR111_0 HR113_0 HR115_0 hx111_0 hx112_0 hx113_0 hx115_0 hx116_0 hHeld ⊢
                      refine pure_ (i:=0) (N:=some 34) (v:=?_) (a':=?_) #[true,false,false,false,false,false,false,false,false,false,false,false,false,false,false,false,false,false,false,false,false,false,false,false,false] rfl rfl (any_of HT_.out (by kernel_rfl)) (fun _ _ _ h=>h) (Or.inl ⟨by rfl,?_⟩) ?_ ?_
                      rotate_left
                      ·intro w'
                       go_simp
                       with_reducible rfl
                      rotate_left
                      ·simp only [Act.put,aA,aB,aC,i64_w,i32_w]
                       rfl
                      refine pure_ (i:=1) (N:=some 35) (v:=?_) (a':=?_) #[true,true,false,false,false,false,false,false,false,false,false,false,false,false,false,false,false,false,false,false,false,false,false,false,false] rfl rfl (any_of HT_.out (by kernel_rfl)) (fun _ _ _ h=>h) (Or.inl ⟨by rfl,?_⟩) ?_ ?_
                      rotate_left
                      ·intro w'
                       go_simp
                       with_reducible rfl
                      rotate_left
                      ·simp only [Act.put,aA,aB,aC,i64_w,i32_w]
                       rfl
                      refine pure_ (i:=2) (N:=some 36) (v:=?_) (a':=?_) #[true,true,true,false,false,false,false,false,false,false,false,false,false,false,false,false,false,false,false,false,false,false,false,false,false] rfl rfl (any_of HT_.out (by kernel_rfl)) (fun _ _ _ h=>h) (Or.inl ⟨by rfl,?_⟩) ?_ ?_
                      rotate_left
                      ·intro w'
                       go_simp
                       with_reducible rfl
                      rotate_left
                      ·simp only [Act.put,aA,aB,aC,i64_w,i32_w]
                       rfl
                      refine pure_ (i:=4) (N:=some 38) (v:=?_) (a':=?_) #[true,true,true,false,true,false,false,false,false,false,false,false,false,false,false,false,false,false,false,false,false,false,false,false,false] rfl rfl (any_of HT_.out (by kernel_rfl)) (fun _ _ _ h=>h) (Or.inl ⟨by rfl,?_⟩) ?_ ?_
                      rotate_left
                      ·intro w'
                       go_simp
                       with_reducible rfl
                      rotate_left
                      ·simp only [Act.put,aA,aB,aC,i64_w,i32_w]
                       rfl
                      refine pure_ (i:=5) (N:=some 39) (v:=?_) (a':=?_) #[true,true,true,false,true,true,false,false,false,false,false,false,false,false,false,false,false,false,false,false,false,false,false,false,false] rfl rfl (any_of HT_.out (by kernel_rfl)) (fun _ _ _ h=>h) (Or.inl ⟨by rfl,?_⟩) ?_ ?_
                      rotate_left
                      ·intro w'
                       go_simp
                       with_reducible rfl
                      rotate_left
                      ·simp only [Act.put,aA,aB,aC,i64_w,i32_w]
                       rfl
                      refine pure_ (i:=6) (N:=some 40) (v:=?_) (a':=?_) #[true,true,true,false,true,true,true,false,false,false,false,false,false,false,false,false,false,false,false,false,false,false,false,false,false] rfl rfl (any_of HT_.out (by kernel_rfl)) (fun _ _ _ h=>h) (Or.inl ⟨by rfl,?_⟩) ?_ ?_
                      rotate_left
                      ·intro w'
                       go_simp
                       with_reducible rfl
                      rotate_left
                      ·simp only [Act.put,aA,aB,aC,i64_w,i32_w]
                       rfl
                      refine pure_ (i:=9) (N:=some 43) (v:=?_) (a':=?_) #[true,true,true,false,true,true,true,false,false,true,false,false,false,false,false,false,false,false,false,false,false,false,false,false,false] rfl rfl (any_of HT_.out (by kernel_rfl)) (fun _ _ _ h=>h) (Or.inl ⟨by rfl,?_⟩) ?_ ?_
                      rotate_left
                      ·intro w'
                       go_simp
                       with_reducible rfl
                      rotate_left
                      ·simp only [Act.put,aA,aB,aC,i64_w,i32_w]
                       rfl
                      refine pure_ (i:=10) (N:=some 44) (v:=?_) (a':=?_) #[true,true,true,false,true,true,true,false,false,true,true,false,false,false,false,false,false,false,false,false,false,false,false,false,false] rfl rfl (any_of HT_.out (by kernel_rfl)) (fun _ _ _ h=>h) (Or.inl ⟨by rfl,?_⟩) ?_ ?_
                      rotate_left
                      ·intro w'
                       go_simp
                       with_reducible rfl
                      rotate_left
                      ·simp only [Act.put,aA,aB,aC,i64_w,i32_w]
                       rfl
                      refine pure_ (i:=11) (N:=some 45) (v:=?_) (a':=?_) #[true,true,true,false,true,true,true,false,false,true,true,true,false,false,false,false,false,false,false,false,false,false,false,false,false] rfl rfl (any_of HT_.out (by kernel_rfl)) (fun _ _ _ h=>h) (Or.inl ⟨by rfl,?_⟩) ?_ ?_
                      rotate_left
                      ·intro w'
                       go_simp
                       with_reducible rfl
                      rotate_left
                      ·simp only [Act.put,aA,aB,aC,i64_w,i32_w]
                       rfl
                      refine pure_ (i:=13) (N:=some 47) (v:=?_) (a':=?_) #[true,true,true,false,true,true,true,false,false,true,true,true,false,true,false,false,false,false,false,false,false,false,false,false,false] rfl rfl (any_of HT_.out (by kernel_rfl)) (fun _ _ _ h=>h) (Or.inl ⟨by rfl,?_⟩) ?_ ?_
                      rotate_left
                      ·intro w'
                       go_simp
                       with_reducible rfl
                      rotate_left
                      ·simp only [Act.put,aA,aB,aC,i64_w,i32_w]
                       rfl
                      refine pure_ (i:=16) (N:=some 50) (v:=?_) (a':=?_) #[true,true,true,false,true,true,true,false,false,true,true,true,false,true,false,false,true,false,false,false,false,false,false,false,false] rfl rfl (any_of HT_.out (by kernel_rfl)) (fun _ _ _ h=>h) (Or.inl ⟨by rfl,?_⟩) ?_ ?_
                      rotate_left
                      ·intro w'
                       go_simp
                       with_reducible rfl
                      rotate_left
                      ·simp only [Act.put,aA,aB,aC,i64_w,i32_w]
                       rfl
                      refine pure_ (i:=17) (N:=some 51) (v:=?_) (a':=?_) #[true,true,true,false,true,true,true,false,false,true,true,true,false,true,false,false,true,true,false,false,false,false,false,false,false] rfl rfl (any_of HT_.out (by kernel_rfl)) (fun _ _ _ h=>h) (Or.inl ⟨by rfl,?_⟩) ?_ ?_
                      rotate_left
                      ·intro w'
                       go_simp
                       with_reducible rfl
                      rotate_left
                      ·simp only [Act.put,aA,aB,aC,i64_w,i32_w]
                       rfl
                      refine pure_ (i:=18) (N:=some 52) (v:=?_) (a':=?_) #[true,true,true,false,true,true,true,false,false,true,true,true,false,true,false,false,true,true,true,false,false,false,false,false,false] rfl rfl (any_of HT_.out (by kernel_rfl)) (fun _ _ _ h=>h) (Or.inl ⟨by rfl,?_⟩) ?_ ?_
                      rotate_left
                      ·intro w'
                       go_simp
                       with_reducible rfl
                      rotate_left
                      ·simp only [Act.put,aA,aB,aC,i64_w,i32_w]
                       rfl
                      refine pure_ (i:=19) (N:=some 53) (v:=?_) (a':=?_) #[true,true,true,false,true,true,true,false,false,true,true,true,false,true,false,false,true,true,true,true,false,false,false,false,false] rfl rfl (any_of HT_.out (by kernel_rfl)) (fun _ _ _ h=>h) (Or.inl ⟨by rfl,?_⟩) ?_ ?_
                      rotate_left
                      ·intro w'
                       go_simp
                       with_reducible rfl
                      rotate_left
                      ·simp only [Act.put,aA,aB,aC,i64_w,i32_w]
                       rfl
                      refine pure_ (i:=21) (N:=some 55) (v:=?_) (a':=?_) #[true,true,true,false,true,true,true,false,false,true,true,true,false,true,false,false,true,true,true,true,false,true,false,false,false] rfl rfl (any_of HT_.out (by kernel_rfl)) (fun _ _ _ h=>h) (Or.inl ⟨by rfl,?_⟩) ?_ ?_
                      rotate_left
                      ·intro w'
                       go_simp
                       with_reducible rfl
                      rotate_left
                      ·simp only [Act.put,aA,aB,aC,i64_w,i32_w]
                       rfl
                      refine take_ (i:=3) (N:=some 37) (v:=?_) (a':=?_) #[true,true,true,true,true,true,true,false,false,true,true,true,false,true,false,false,true,true,true,true,false,true,false,false,false] rfl rfl (take_ofW HT_.out HW_.out (by kernel_rfl)) (fun _ _ _ h=>h) (Or.inl ⟨by rfl,?_⟩) hHeld ?_ ?_
                      rotate_left
                      ·rintro w' ⟨s0,s1,s2,s3,s4⟩
                       go_simp
                       with_reducible rfl
                      rotate_left
                      ·simp only [Act.put,aA,aB,aC,i64_w,i32_w]
                       rfl
                      refine pure_ (i:=7) (N:=some 41) (v:=?_) (a':=?_) #[true,true,true,true,true,true,true,true,false,true,true,true,false,true,false,false,true,true,true,true,false,true,false,false,false] rfl rfl (any_of HT_.out (by kernel_rfl)) (fun _ _ _ h=>h) (Or.inl ⟨by rfl,?_⟩) ?_ ?_
                      rotate_left
                      ·intro w'
                       go_simp
                       with_reducible rfl
                      rotate_left
                      ·simp only [Act.put,aA,aB,aC,i64_w,i32_w]
                       rfl
                      refine take_ (i:=8) (N:=some 42) (v:=?_) (a':=?_) #[true,true,true,true,true,true,true,true,true,true,true,true,false,true,false,false,true,true,true,true,false,true,false,false,false] rfl rfl (take_ofW HT_.out HW_.out (by kernel_rfl)) (fun _ _ _ h=>h) (Or.inl ⟨by rfl,?_⟩) hHeld ?_ ?_
                      rotate_left
                      ·rintro w' ⟨s0,s1,s2,s3,s4⟩
                       go_simp
                       with_reducible rfl
                      rotate_left
                      ·simp only [Act.put,aA,aB,aC,i64_w,i32_w]
                       rfl
                      refine take_ (i:=12) (N:=some 46) (v:=?_) (a':=?_) #[true,true,true,true,true,true,true,true,true,true,true,true,true,true,false,false,true,true,true,true,false,true,false,false,false] rfl rfl (take_ofW HT_.out HW_.out (by kernel_rfl)) (fun _ _ _ h=>h) (Or.inl ⟨by rfl,?_⟩) hHeld ?_ ?_
                      rotate_left
                      ·rintro w' ⟨s0,s1,s2,s3,s4⟩
                       go_simp
                       with_reducible rfl
                      rotate_left
                      ·simp only [Act.put,aA,aB,aC,i64_w,i32_w]
                       rfl
                      refine take_ (i:=20) (N:=some 54) (v:=?_) (a':=?_) #[true,true,true,true,true,true,true,true,true,true,true,true,true,true,false,false,true,true,true,true,true,true,false,false,false] rfl rfl (take_ofW HT_.out HW_.out (by kernel_rfl)) (fun _ _ _ h=>h) (Or.inl ⟨by rfl,?_⟩) hHeld ?_ ?_
                      rotate_left
                      ·rintro w' ⟨s0,s1,s2,s3,s4⟩
                       go_simp
                       with_reducible rfl
                      rotate_left
                      ·simp only [Act.put,aA,aB,aC,i64_w,i32_w]
                       rfl
                      refine pure_ (i:=22) (N:=some 56) (v:=?_) (a':=?_) #[true,true,true,true,true,true,true,true,true,true,true,true,true,true,false,false,true,true,true,true,true,true,true,false,false] rfl rfl (any_of HT_.out (by kernel_rfl)) (fun _ _ _ h=>h) (Or.inl ⟨by rfl,?_⟩) ?_ ?_
                      rotate_left
                      ·intro w'
                       go_simp
                       with_reducible rfl
                      rotate_left
                      ·simp only [Act.put,aA,aB,aC,i64_w,i32_w]
                       rfl
                      refine take_ (i:=23) (N:=some 57) (v:=?_) (a':=?_) #[true,true,true,true,true,true,true,true,true,true,true,true,true,true,false,false,true,true,true,true,true,true,true,true,false] rfl rfl (take_ofW HT_.out HW_.out (by kernel_rfl)) (fun _ _ _ h=>h) (Or.inl ⟨by rfl,?_⟩) hHeld ?_ ?_
                      rotate_left
                      ·rintro w' ⟨s0,s1,s2,s3,s4⟩
                       go_simp
                       with_reducible rfl
                      rotate_left
                      ·simp only [Act.put,aA,aB,aC,i64_w,i32_w]
                       rfl
                      refine one_ (i:=14) (N:=some 48) #[true,true,true,true,true,true,true,true,true,true,true,true,true,true,true,false,true,true,true,true,true,true,true,true,false] rfl rfl (one_of HT_.out (by kernel_rfl)) (by decide) (fun K hK=>?_)
                      first|(refine goes_ Try.func147 (by kernel_rfl) rfl #[.agg #[.slice A113_0 ((rd_T53 l0 x10_2).f0).length c113_0],.int .i64 x11_3] (by rfl) rfl rfl (by (try simp only [aD,aE,aF]);first|done|rfl|(simp only [aG,aH];rfl)) ?_)|(refine call_ 147 #[.agg #[.slice A113_0 ((rd_T53 l0 x10_2).f0).length c113_0],.int .i64 x11_3] (by rfl) rfl (by unfold execOp;simp [resolve,Deferred.ofValue,invoke,Act.eval,enters_ Try.func147 (by kernel_rfl) rfl]) ?_)
                      with_reducible refine (spec_l6Gain.calls _ _ ((rd_T53 l0 x10_2).f0) x11_3 t114 _ ?side1 ?side2 A23.out).mono ?_
                      (case side1=>repeat (first|exact (Kd.C_below HR113_0.out HB.out)|(with_reducible refine Kd.Qj ?_ _)|(with_reducible refine Kd.Qk ?_ _)|(with_reducible refine Kd.C_drew ?_)))
                      (case side2=>exact HC113_0.out)
                      rintro e w39 ⟨rfl,hb⟩
                      have HS0_:=(hb.cell (aI _ _ (hHeld.1))).trans (hHeld.1);have HS1_:=(hb.cell (aI _ _ (hHeld.2.1))).trans (hHeld.2.1);have HS3_:=(hb.cell (aI _ _ (hHeld.2.2.2.1))).trans (hHeld.2.2.2.1);have HS4_:=(hb.cell (aI _ _ (hHeld.2.2.2.2))).trans (hHeld.2.2.2.2);refine ⟨_,rfl,?_⟩;have n0_:=aM (Kd.N_below (by (with_reducible repeat (first|apply Kd.Ql|apply Kd.Qm|apply Kd.N_drew));exact HO_7.out) hb);have n1_:=aM (Kd.R_below (by (with_reducible repeat (first|apply Kd.R_alloc|apply Kd.R_drewN|apply Kd.R_drew));exact HO_8.out) hb);have n2_:=aM (Kd.V_below (by (with_reducible repeat (first|apply Kd.V_alloc|apply Kd.V_drewN|apply Kd.V_drew));exact HL111_0.out) hb);have n3_:=aM (Kd.V_below (by (with_reducible repeat (first|apply Kd.V_alloc|apply Kd.V_drewN|apply Kd.V_drew));exact HL115_0.out) hb);have n4_:=aM (Kd.C_below (by repeat (first|(with_reducible exact HR111_0.out)|(with_reducible refine Kd.Qj ?_ _)|(with_reducible refine Kd.Qk ?_ _)|(with_reducible refine Kd.C_drew ?_)|exact HR111_0.out)) hb);have n5_:=aM (Kd.C_below (by repeat (first|(with_reducible exact HR115_0.out)|(with_reducible refine Kd.Qj ?_ _)|(with_reducible refine Kd.Qk ?_ _)|(with_reducible refine Kd.C_drew ?_)|exact HR115_0.out)) hb);have n6_:=aM (Qi (by repeat (first|(with_reducible first|exact HB.out|apply Qc|apply Qa|apply Qb)|exact HB.out)) hb);clear HO_7;clear HO_8;clear HL111_0;clear HL115_0;clear HR111_0;clear HR115_0;clear HB;have HO_7:=n0_;have HO_8:=n1_;have HL111_0:=n2_;have HL115_0:=n3_;have HR111_0:=n4_;have HR115_0:=n5_;have HB:=n6_;clear n0_ n1_ n2_ n3_ n4_ n5_ n6_;(try clear hb);(try clear hb2);(try clear hk);(try clear hi);refine hK.out _ _ ⟨HS0_,HS1_,((HB.out.cell (aI w _ hw113_0)).trans hw113_0),HS3_,HS4_⟩ (fun hHeld=>?_);clear hK K;refine norm_ (a':=?_) ?_ ?_
                      rotate_left
                      ·show Act.put _ (some 48) _=_
                       simp only [Act.put,aA,aB,aC,i64_w,i32_w]
                       rfl
                      refine pure_ (i:=15) (N:=some 49) (v:=?_) (a':=?_) #[true,true,true,true,true,true,true,true,true,true,true,true,true,true,true,true,true,true,true,true,true,true,true,true,false] rfl rfl (any_of HT_.out (by kernel_rfl)) (fun _ _ _ h=>h) (Or.inl ⟨by rfl,?_⟩) ?_ ?_
                      rotate_left
                      ·intro w'
                       go_simp
                       with_reducible rfl
                      rotate_left
                      ·simp only [Act.put,aA,aB,aC,i64_w,i32_w]
                       rfl
                      refine pure_ (i:=24) (N:=some 58) (v:=?_) (a':=?_) #[true,true,true,true,true,true,true,true,true,true,true,true,true,true,true,true,true,true,true,true,true,true,true,true,true] rfl rfl (any_of HT_.out (by kernel_rfl)) (fun _ _ _ h=>h) (Or.inl ⟨by rfl,?_⟩) ?_ ?_
                      rotate_left
                      ·intro w'
                       go_simp
                       with_reducible rfl
                      rotate_left
                      ·simp only [Act.put,aA,aB,aC,i64_w,i32_w]
                       rfl
                      refine done_ (done_of HT_.out (by kernel_rfl)) ?_
                      try go_wp2
                      go_roundg k3
                      case measure=>have:=HJ2.out;have:=HK2.out;have:=HK3.out;omega
                      case rel=>exact ⟨(wrap64 (x11_3+1)),(by first|rfl|(simp;done)|(simp [*];done)),H',⟨by have:=HJ2.out;have:=HK2.out;have:=HK3.out;omega⟩,⟨by (with_reducible repeat (first|apply Kd.Ql|apply Kd.Qm|apply Kd.N_drew));exact HO_7.out⟩,⟨by (with_reducible repeat (first|apply Kd.R_alloc|apply Kd.R_drewN|apply Kd.R_drew));exact HO_8.out⟩,⟨by repeat (first|(with_reducible first|exact HB.out|apply Qc|apply Qa|apply Qb)|exact HB.out)⟩⟩
                    ·rw [if_neg c28] at H;exact absurd H (by simp)
                   ·rw [if_neg c27] at H;exact absurd H (by simp)
                  ·rw [if_neg c26] at H;exact absurd H (by simp)
                 ·rw [if_neg c25] at H;exact absurd H (by simp)
                ·rw [if_neg c22] at H;exact absurd H (by simp)
               ·rw [if_neg c21] at H;exact absurd H (by simp)
              ·rw [if_neg c20] at H;exact absurd H (by simp)
             ·rw [if_neg c18] at H;exact absurd H (by simp)
            ·rw [if_neg c17] at H;exact absurd H (by simp)
         ·rw [if_neg c16] at H;have c16b0:decide (0≤x10_2)=false:=decide_eq_false c16;clear c16;by_cases c40:0≤(l0.length:Int)
          ·rw [if_pos c40] at H;have c40b0:decide (0≤(l0.length:Int))=true:=decide_eq_true c40;have c40b1:decide (0≤l0.length)=true:=decide_eq_true (by omega);clear c40;by_cases c41:(l0.length:Int)<(t103.length:Int)
           ·rw [if_pos c41] at H;have c41b0:decide ((l0.length:Int)<(t103.length:Int))=true:=decide_eq_true c41;have c41b1:decide (l0.length<t103.length)=true:=decide_eq_true (Int.ofNat_lt.mp c41);clear c41;by_cases c42:0≤a1
            ·rw [if_pos c42] at H;have c42b0:decide (0≤a1)=true:=decide_eq_true c42;clear c42;by_cases c43:a1<((rd_L2 t103 (l0.length:Int)).length:Int)
             ·rw [if_pos c43] at H;have c43b0:decide (a1<((rd_L2 t103 (l0.length:Int)).length:Int))=true:=decide_eq_true c43;clear c43;simp only [Option.some.injEq,Prod.mk.injEq] at H;obtain ⟨rfl,rfl,rfl⟩:=H
              try go_wp2
              have n0_:=aM (Kd.N_drew HO_7.out);have n1_:=aM (Kd.R_drew HO_8.out);have n2_:=aM (Qb HB.out);clear HO_7;clear HO_8;clear HB;have HO_7:=n0_;have HO_8:=n1_;have HB:=n2_;clear n0_ n1_ n2_;obtain ⟨Ao45,co45,eo45⟩:=Kd.N_slice HO_7.out
              (first|subst eo45|(injection eo45 with f1_ f2_ f3_;have f4_:=f1_.symm;have f5_:=f3_.symm;clear f1_ f2_ f3_;subst f4_;subst f5_))
              have p109:0≤((l0.length:Int):Int):=of_decide_eq_true (by first|(with_reducible assumption)|assumption);have q109:(l0.length:Int)<(t103.length:Int):=of_decide_eq_true (by first|(with_reducible assumption)|assumption);obtain ⟨ad109,A109_0,c109_0,e109,hx109_0,hl109_0,hi109_0⟩:=at_L2 (Kd.Qs HO_7.out).2.2 (l0.length:Int) p109 q109
              cases e109
              obtain ⟨ce109,hce109,hMe109,hcc109⟩:=Kd.N_get HO_7.out [] (l0.length:Int) p109 (by first|exact q109|exact of_decide_eq_true (by first|(with_reducible assumption)|assumption)|(have e_:=(Kd.Qs HO_7.out).1;omega));obtain ⟨ua109_0,uc109_0,rfl,ul109_0,ge109_0⟩:=Kd.FK_slice_open hMe109;have hv109_0:=hcc109 0 _ rfl;rw [Nat.add_zero,show ((Kd.slice 3 (Kd.int .i64))).sz=1 from rfl,Nat.mul_one] at hv109_0;replace hv109_0:=Option.some.inj (hv109_0.symm.trans hx109_0)
              injection hv109_0 with hva_ hvn_ hvc_
              rw [hva_] at ge109_0;rw [hvc_] at ul109_0;have HL109_0:=aM (show Kd.V (Kd.int .i64) 3 _ w.heap.size _ _ (rd_L2 t103 (l0.length:Int)) from Kd.V_mk ul109_0 ge109_0);clear hva_ hvn_ hvc_ ge109_0 ul109_0;clear hcc109 hce109;have HR109_0:=aM hi109_0;have HC109_0:=aM hl109_0;clear hi109_0 hl109_0;(try simp only [Go.IntWalk.toNatUp] at hx109_0);replace p109:=eq_true p109;replace q109:=eq_true q109;have p110:0≤(a1:Int):=of_decide_eq_true (by first|(with_reducible assumption)|assumption);have q110:a1<((rd_L2 t103 (l0.length:Int)).length:Int):=of_decide_eq_true (by first|(with_reducible assumption)|assumption);obtain ⟨ad110,e110,hx110_0⟩:=Kd.at_int (by repeat (first|(with_reducible exact HR109_0.out)|(with_reducible refine Kd.Qj ?_ _)|(with_reducible refine Kd.Qk ?_ _)|(with_reducible refine Kd.C_drew ?_)|exact HR109_0.out)) a1 p110 q110
              cases e110
              replace p110:=eq_true p110;replace q110:=eq_true q110;refine start_ (n:=12) (S:=fun w'=>w'.cell? (ad109.add l0.length)=some (.slice (some ad110) (rd_L2 t103 (l0.length:Int)).length c109_0)∧w'.cell? (ad110.add (a1).toNat)=some (.int .i64 (rd (rd_L2 t103 (l0.length:Int)) a1))) (ds:=[]) #[false,false,false,false,false,false,false,false,false,false,false,false] (by kernel_rfl) rfl rfl ⟨hx109_0,hx110_0⟩ (fun hHeld=>?_);refine with_tabW spec_BestChoice.tab14 spec_BestChoice.bits14 (fun HT_ HW_=>?_)
              generalize wr.drew=w44 at HO_7 HO_8 HB HL109_0 HR109_0 hx109_0 hx110_0 hHeld ⊢
              refine pure_ (i:=0) (N:=some 68) (v:=?_) (a':=?_) #[true,false,false,false,false,false,false,false,false,false,false,false] rfl rfl (any_of HT_.out (by kernel_rfl)) (fun _ _ _ h=>h) (Or.inl ⟨by rfl,?_⟩) ?_ ?_
              rotate_left
              ·intro w'
               go_simp
               with_reducible rfl
              rotate_left
              ·simp only [Act.put,aA,aB,aC,i64_w,i32_w]
               rfl
              refine pure_ (i:=1) (N:=some 69) (v:=?_) (a':=?_) #[true,true,false,false,false,false,false,false,false,false,false,false] rfl rfl (any_of HT_.out (by kernel_rfl)) (fun _ _ _ h=>h) (Or.inl ⟨by rfl,?_⟩) ?_ ?_
              rotate_left
              ·intro w'
               go_simp
               with_reducible rfl
              rotate_left
              ·simp only [Act.put,aA,aB,aC,i64_w,i32_w]
               rfl
              refine pure_ (i:=2) (N:=some 70) (v:=?_) (a':=?_) #[true,true,true,false,false,false,false,false,false,false,false,false] rfl rfl (any_of HT_.out (by kernel_rfl)) (fun _ _ _ h=>h) (Or.inl ⟨by rfl,?_⟩) ?_ ?_
              rotate_left
              ·intro w'
               go_simp
               with_reducible rfl
              rotate_left
              ·simp only [Act.put,aA,aB,aC,i64_w,i32_w]
               rfl
              refine pure_ (i:=3) (N:=some 71) (v:=?_) (a':=?_) #[true,true,true,true,false,false,false,false,false,false,false,false] rfl rfl (any_of HT_.out (by kernel_rfl)) (fun _ _ _ h=>h) (Or.inl ⟨by rfl,?_⟩) ?_ ?_
              rotate_left
              ·intro w'
               go_simp
               with_reducible rfl
              rotate_left
              ·simp only [Act.put,aA,aB,aC,i64_w,i32_w]
               rfl
              refine pure_ (i:=4) (N:=some 72) (v:=?_) (a':=?_) #[true,true,true,true,true,false,false,false,false,false,false,false] rfl rfl (any_of HT_.out (by kernel_rfl)) (fun _ _ _ h=>h) (Or.inl ⟨by rfl,?_⟩) ?_ ?_
              rotate_left
              ·intro w'
               go_simp
               with_reducible rfl
              rotate_left
              ·simp only [Act.put,aA,aB,aC,i64_w,i32_w]
               rfl
              refine pure_ (i:=6) (N:=some 74) (v:=?_) (a':=?_) #[true,true,true,true,true,false,true,false,false,false,false,false] rfl rfl (any_of HT_.out (by kernel_rfl)) (fun _ _ _ h=>h) (Or.inl ⟨by rfl,?_⟩) ?_ ?_
              rotate_left
              ·intro w'
               go_simp
               with_reducible rfl
              rotate_left
              ·simp only [Act.put,aA,aB,aC,i64_w,i32_w]
               rfl
              refine pure_ (i:=9) (N:=some 4) (v:=?_) (a':=?_) #[true,true,true,true,true,false,true,false,false,true,false,false] rfl rfl (any_of HT_.out (by kernel_rfl)) (fun _ _ _ h=>h) (Or.inl ⟨by rfl,?_⟩) ?_ ?_
              rotate_left
              ·intro w'
               go_simp
               with_reducible rfl
              rotate_left
              ·simp only [Act.put,aA,aB,aC,i64_w,i32_w]
               rfl
              refine take_ (i:=5) (N:=some 73) (v:=?_) (a':=?_) #[true,true,true,true,true,true,true,false,false,true,false,false] rfl rfl (take_ofW HT_.out HW_.out (by kernel_rfl)) (fun _ _ _ h=>h) (Or.inl ⟨by rfl,?_⟩) hHeld ?_ ?_
              rotate_left
              ·rintro w' ⟨s0,s1⟩
               go_simp
               with_reducible rfl
              rotate_left
              ·simp only [Act.put,aA,aB,aC,i64_w,i32_w]
               rfl
              refine pure_ (i:=7) (N:=some 75) (v:=?_) (a':=?_) #[true,true,true,true,true,true,true,true,false,true,false,false] rfl rfl (any_of HT_.out (by kernel_rfl)) (fun _ _ _ h=>h) (Or.inl ⟨by rfl,?_⟩) ?_ ?_
              rotate_left
              ·intro w'
               go_simp
               with_reducible rfl
              rotate_left
              ·simp only [Act.put,aA,aB,aC,i64_w,i32_w]
               rfl
              refine take_ (i:=8) (N:=some 76) (v:=?_) (a':=?_) #[true,true,true,true,true,true,true,true,true,true,false,false] rfl rfl (take_ofW HT_.out HW_.out (by kernel_rfl)) (fun _ _ _ h=>h) (Or.inl ⟨by rfl,?_⟩) hHeld ?_ ?_
              rotate_left
              ·rintro w' ⟨s0,s1⟩
               go_simp
               with_reducible rfl
              rotate_left
              ·simp only [Act.put,aA,aB,aC,i64_w,i32_w]
               rfl
              refine pure_ (i:=10) (N:=some 5) (v:=?_) (a':=?_) #[true,true,true,true,true,true,true,true,true,true,true,false] rfl rfl (any_of HT_.out (by kernel_rfl)) (fun _ _ _ h=>h) (Or.inl ⟨by rfl,?_⟩) ?_ ?_
              rotate_left
              ·intro w'
               go_simp
               with_reducible rfl
              rotate_left
              ·simp only [Act.put,aA,aB,aC,i64_w,i32_w]
               rfl
              refine pure_ (i:=11) (N:=some 6) (v:=?_) (a':=?_) #[true,true,true,true,true,true,true,true,true,true,true,true] rfl rfl (any_of HT_.out (by kernel_rfl)) (fun _ _ _ h=>h) (Or.inl ⟨by rfl,?_⟩) ?_ ?_
              rotate_left
              ·intro w'
               go_simp
               with_reducible rfl
              rotate_left
              ·simp only [Act.put,aA,aB,aC,i64_w,i32_w]
               rfl
              refine done_ (done_of HT_.out (by kernel_rfl)) ?_
              try go_wp2
              go_ret3
              exact ⟨_,by first|rfl|(simp [errW_none,errW_some] <;> rfl)|(simp [*,errW_none,errW_some] <;> rfl),by (with_reducible repeat (first|apply Kd.R_alloc|apply Kd.R_drewN|apply Kd.R_drew));exact HO_8.out,by repeat (first|(with_reducible first|exact HB.out|apply Qc|apply Qa|apply Qb)|exact HB.out)⟩
             ·rw [if_neg c43] at H;exact absurd H (by simp)
            ·rw [if_neg c42] at H;exact absurd H (by simp)
           ·rw [if_neg c41] at H;exact absurd H (by simp)
          ·rw [if_neg c40] at H;exact absurd H (by simp)
      ·rw [if_neg c12] at H;exact absurd H (by simp)
     ·rw [if_neg c11] at H;exact absurd H (by simp)
end Go.Proofs.Ytpagpbamdpllnaa.Print
namespace Go.Proofs.Ytpagpbamdpllnaa.Pure
open Go.RowKit Go.Proofs.Ytpagpbamdpllnaa.Print Go.Proofs.YtpagpbamdpllnaaW.PrintWords Go.Proofs.YtpagpbamdpllnaaW.PrintLast Go.Proofs.YtpagpbamdpllnaaW.PrintMore

def flowOk (flow : List Int) : Bool := decide (1 ≤ (flow.length : Int)) && decide ((flow.length : Int) ≤ 8) && allIn flow 1 30
def countsOk (flow counts : List Int) : Bool := flowOk flow && (decide ((counts.length : Int) = (flow.length : Int)) && (allIn counts 1 40 && decide (counts.sum ≤ 40)))
def gn (f c : Int) : Int := lowNum f (c * (c + 1))
def gd (f c : Int) : Int := lowDen f (c * (c + 1))
def bestUp (lt : Nat → Nat → Bool) : Nat → Nat
  | 0 => 0
  | i + 1 => if lt (bestUp lt i) i = true then i else bestUp lt i
def gainLt (flow counts : List Int) (b i : Nat) : Bool := decide (gn flow[b]! counts[b]! * gd flow[i]! counts[i]! < gn flow[i]! counts[i]! * gd flow[b]! counts[b]!)
def nextOf (flow counts : List Int) : Nat := bestUp (gainLt flow counts) flow.length

def fits (p : Int × Int) : Int × Int × Bool := if goodFrac p.1 p.2 = true then (p.1, p.2, true) else (0, 0, false)
def bothGood (a b c d : Int) : Bool := goodFrac a b && goodFrac c d
def addF (a b c d : Int) : Int × Int × Bool := if bothGood a b c d = true then fits (lowNum (a * d + c * b) (b * d), lowDen (a * d + c * b) (b * d)) else (0, 0, false)
def subF (a b c d : Int) : Int × Int × Bool := if bothGood a b c d = true then fits (lowNum (a * d - c * b) (b * d), lowDen (a * d - c * b) (b * d)) else (0, 0, false)
def mulF (a b c d : Int) : Int × Int × Bool := if bothGood a b c d = true then fits (lowNum (a * c) (b * d), lowDen (a * c) (b * d)) else (0, 0, false)
def divF (a b c d : Int) : Int × Int × Bool := if bothGood a b c d = true ∧ c ≠ 0 then fits (lowNum (a * d) (b * c), lowDen (a * d) (b * c)) else (0, 0, false)
def lessF (a b c d : Int) : Bool × Bool := if bothGood a b c d = true then (decide (a * d < c * b), true) else (false, false)
def floorF (a b : Int) : Int × Bool := if goodFrac a b = true then (a / b, true) else (0, false)

def sumF : List (Int × Int) → Int × Int → Int × Int × Bool
  | [], s => (s.1, s.2, true)
  | x :: l, s => if (addF s.1 s.2 x.1 x.2).2.2 = true then sumF l ((addF s.1 s.2 x.1 x.2).1, (addF s.1 s.2 x.1 x.2).2.1) else (0, 0, false)

def sumsF (l : List (Int × Int)) : Int × Int × Bool := if l.length ≤ 50 then sumF l (0, 1) else (0, 0, false)

def bump (flow counts : List Int) : List Int := counts.set (nextOf flow counts) (counts[nextOf flow counts]! + 1)
def shareUp (flow : List Int) : Nat → List Int
  | 0 => List.replicate flow.length 1
  | i + 1 => bump flow (shareUp flow i)
def shareOf (flow : List Int) (places : Int) : List Int := shareUp flow (places - flow.length).toNat
def kindsOk (flow : List Int) (places : Int) : Bool := flowOk flow && (decide ((flow.length : Int) ≤ places) && decide (places ≤ 40))

def upFrom (k : Int) (n : Nat) : List Int := (List.range n).map fun (j : Nat) => k + (j : Int)

def jn (E : List (Nat × Nat)) (T : Nat → Bool) : Nat → Nat → Prop
  | 0, u => T u = true
  | n + 1, u => T u = true ∨ ∃ v, ((u, v) ∈ E ∨ (v, u) ∈ E) ∧ jn E T n v
def Jn (E : List (Nat × Nat)) (T : Nat → Bool) (u : Nat) : Prop := ∃ n, jn E T n u
theorem Jn.base {E : List (Nat × Nat)} {T : Nat → Bool} {u : Nat} (h : T u = true) : Jn E T u := ⟨0, h⟩
theorem Jn.step {E : List (Nat × Nat)} {T : Nat → Bool} {u v : Nat} (h : (u, v) ∈ E ∨ (v, u) ∈ E) (k : Jn E T v) : Jn E T u := by
  obtain ⟨n, hn⟩ := k; exact ⟨n + 1, .inr ⟨v, h, hn⟩⟩
theorem Jn.rule {E : List (Nat × Nat)} {T : Nat → Bool} {P : Nat → Prop} (hb : ∀ u, T u = true → P u)
    (hs : ∀ u v, ((u, v) ∈ E ∨ (v, u) ∈ E) → Jn E T v → P v → P u) {u : Nat} (h : Jn E T u) : P u := by
  obtain ⟨n, hn⟩ := h
  induction n generalizing u with
  | zero => exact hb u hn
  | succ n ih =>
    rcases hn with h | ⟨v, h, hv⟩
    · exact hb u h
    · exact hs u v h ⟨n, hv⟩ (ih hv)
theorem Jn.trans {E E' : List (Nat × Nat)} {T T' : Nat → Bool} {u : Nat} (h : Jn E T u) (k : ∀ x, T x = true → Jn E' T' x) (hE : ∀ e ∈ E, e ∈ E') : Jn E' T' u :=
  h.rule k fun _ _ he _ p => Jn.step (he.imp (hE _) (hE _)) p
theorem Jn.move {E : List (Nat × Nat)} {J : Nat → Bool} {v x s : Nat} {e : Nat × Nat} (hxs : e = (x, s) ∨ e = (s, x)) (hs : J s = true)
    (hj : Jn (E.erase e) (fun u => decide (u = v)) x) {u : Nat} (h : Jn E J u) : Jn (E.erase e) (fun y => J y || decide (y = v)) u := by
  have hx : Jn (E.erase e) (fun y => J y || decide (y = v)) x := hj.trans (fun y hy => Jn.base (by simp at hy; simp [hy])) (fun _ h => h)
  have hss : Jn (E.erase e) (fun y => J y || decide (y = v)) s := Jn.base (by simp [hs])
  refine h.rule (P := fun u => Jn (E.erase e) (fun y => J y || decide (y = v)) u) (fun u hu => Jn.base (by simp [hu])) ?_
  intro u w hf _ ih
  by_cases h1 : (u, w) = e
  · rcases hxs with h2 | h2 <;> rw [h2] at h1 <;> injection h1 with h3 h4
    · rw [h3]; exact hx
    · rw [h3]; exact hss
  · by_cases h2 : (w, u) = e
    · rcases hxs with h3 | h3 <;> rw [h3] at h2 <;> injection h2 with h4 h5
      · rw [h5]; exact hss
      · rw [h5]; exact hx
    · refine Jn.step (v := w) ?_ ih
      rcases hf with hf | hf
      · exact .inl ((List.mem_erase_of_ne h1).mpr hf)
      · exact .inr ((List.mem_erase_of_ne h2).mpr hf)
def sumW (w : Nat → Nat → Int) (E : List (Nat × Nat)) : Int := (E.map fun e => w e.1 e.2).sum
def nearUp (w : Nat → Nat → Int) (J : Nat → Bool) (i : Nat) : Nat → Option Nat
  | 0 => none
  | k + 1 => match nearUp w J i k with
    | none => if J k = true then some k else none
    | some m => if J k = true ∧ w i k < w i m then some k else some m
def pickUp (w : Nat → Nat → Int) (J : Nat → Bool) (n : Nat) : Nat → Option (Nat × Nat)
  | 0 => none
  | i + 1 => match pickUp w J n i with
    | none => if J i = true then none else (nearUp w J i n).map fun m => (i, m)
    | some p => if J i = true then some p else match nearUp w J i n with
      | none => some p
      | some m => if w i m < w p.1 p.2 then some (i, m) else some p

def updP (w : Nat → Nat → Int) (J : Nat → Bool) (i : Nat) (p : Option (Nat × Nat)) (m : Option Nat) : Option (Nat × Nat) :=
  if J i = true then p else match m with
    | none => p
    | some m => match p with
      | none => some (i, m)
      | some q => if w i m < w q.1 q.2 then some (i, m) else some q
def jd (J : List Bool) (m : Nat) : Bool := rdOf false J (m : Int)
def primSt (w : Nat → Nat → Int) (n : Nat) : Nat → List Int × Int × List Bool
  | 0 => (List.replicate n (-1), 0, (List.replicate n false).set 0 true)
  | t + 1 => match pickUp w (jd (primSt w n t).2.2) n n with
    | none => primSt w n t
    | some q => ((primSt w n t).1.set q.1 (q.2 : Int), (primSt w n t).2.1 + w q.1 q.2, (primSt w n t).2.2.set q.1 true)
def sumTo (f : Nat → Int) : Nat → Int
  | 0 => 0
  | n + 1 => sumTo f n + f n
structure PrimOk (w : Nat → Nat → Int) (n : Nat) (E : List (Nat × Nat)) (t : Nat) (s : List Int × Int × List Bool) : Prop where
  l1 : s.1.length = n
  l2 : s.2.2.length = n
  cnt : s.2.2.count true = t + 1
  j0 : jd s.2.2 0 = true
  o0 : rd s.1 0 = -1
  up : ∀ i, i < n → i ≠ 0 → jd s.2.2 i = true → 0 ≤ rd s.1 i ∧ rd s.1 i < n ∧ rd s.1 i ≠ i
  all : ∀ i, i < n → -1 ≤ rd s.1 i ∧ rd s.1 i < n
  sum : s.2.1 = sumTo (fun i => if jd s.2.2 i = true ∧ i ≠ 0 then w i (rd s.1 i).toNat else 0) n
  pot : ∃ E', (∀ e ∈ E', e ∈ E) ∧ sumW w E' + s.2.1 ≤ sumW w E ∧ ∀ u, u < n → Jn E' (jd s.2.2) u

def isqUp (n : Int) : Nat → Int
  | 0 => 0
  | k + 1 => if ((k : Int) + 1) * ((k : Int) + 1) ≤ n then (k : Int) + 1 else isqUp n k
def isq (n : Int) : Int := isqUp n n.toNat
def goodB (a b c d : Int) : Bool := bothGood a b c d && (decide (0 ≤ a) && !decide (c * b < a * d))

def withinB (x y a b c d : Int) : Bool × Bool := if goodFrac x y = true ∧ goodB a b c d = true then (!decide (x * b < a * y) && !decide (c * y < x * d), true) else (false, false)

def rootB (n p : Int) : Int × Int × Int × Int × Bool :=
  if (0 ≤ n ∧ n ≤ 1000000000000) ∧ (1 ≤ p ∧ p ≤ 1000) ∧ n ≤ 1000000000000 / (p * p) then
    (lowNum (isq (n * p * p)) p, lowDen (isq (n * p * p)) p, lowNum (if isq (n * p * p) * isq (n * p * p) = n * p * p then isq (n * p * p) else isq (n * p * p) + 1) p, lowDen (if isq (n * p * p) * isq (n * p * p) = n * p * p then isq (n * p * p) else isq (n * p * p) + 1) p, true)
  else (0, 0, 0, 0, false)
def losOf (l : List S44) : List (Int × Int) := l.map fun b => (b.f0.f0, b.f0.f1)
def hisOf (l : List S44) : List (Int × Int) := l.map fun b => (b.f1.f0, b.f1.f1)
def sumB (l : List S44) : Int × Int × Int × Int × Bool :=
  if l.length ≤ 20 ∧ (l.all fun b => goodB b.f0.f0 b.f0.f1 b.f1.f0 b.f1.f1) = true ∧ (sumF (losOf l) (0, 1)).2.2 = true ∧ (sumF (hisOf l) (0, 1)).2.2 = true then
    ((sumF (losOf l) (0, 1)).1, (sumF (losOf l) (0, 1)).2.1, (sumF (hisOf l) (0, 1)).1, (sumF (hisOf l) (0, 1)).2.1, true)
  else (0, 0, 0, 0, false)

def csq (n : Int) : Int := if isq n * isq n = n then isq n else isq n + 1
def rootsL (flow : List Int) (p : Int) : Int := (flow.map fun f => isq (f * p * p)).sum
def rootsH (flow : List Int) (p : Int) : Int := (flow.map fun f => csq (f * p * p)).sum
def leastB (flow : List Int) (room p : Int) : Int × Int × Int × Int × Bool :=
  if flowOk flow = true ∧ (8 ≤ room ∧ room ≤ 1000) ∧ (1 ≤ p ∧ p ≤ 100) then
    (lowNum (rootsL flow p * rootsL flow p) (p * p * room), lowDen (rootsL flow p * rootsL flow p) (p * p * room), lowNum (rootsH flow p * rootsH flow p) (p * p * room), lowDen (rootsH flow p * rootsH flow p) (p * p * room), true)
  else (0, 0, 0, 0, false)
def bndOf (p f : Int) : S44 := ⟨⟨lowNum (isq (f * p * p)) p, lowDen (isq (f * p * p)) p⟩, ⟨lowNum (csq (f * p * p)) p, lowDen (csq (f * p * p)) p⟩⟩

def allTo (P : Nat → Bool) (n : Nat) : Bool := (List.range n).all P
def KK : Int := 219060189739591200
def kd (c : Int) : Int := KK / c
def gK (c : Int) : Int := kd c - kd (c + 1)
def Stab (n : Nat) (f c : Nat → Int) : Prop := ∀ i k, i < n → k < n → i ≠ k → 1 < c i → f k * gK (c k) ≤ f i * gK (c i - 1)
def costN (n : Nat) (f c : Nat → Int) : Int := sumTo (fun i => f i * kd (c i)) n
def tK (x : Int × Int) : Int := x.1 * KK / x.2
def isT (x : Int × Int) (t : Int) : Prop := 1 ≤ x.2 ∧ x.1 * KK = x.2 * t
def ratioL (flow counts : List Int) : List (Int × Int) := (List.range flow.length).map fun (j : Nat) => (lowNum (rd flow j) (rd counts j), lowDen (rd flow j) (rd counts j))
def costF (flow counts : List Int) : Int × Int × Bool := if countsOk flow counts = true then sumF (ratioL flow counts) (0, 1) else (0, 0, false)

def gainN (g : List Int) (c : Nat) : Int := if c = 0 then 0 else rd g ((c - 1 : Nat) : Int)
def okO (g : List Int) : Bool := decide (g.length ≤ 6) && allIn g (-1000) 1000
theorem gainN_bound {g : List Int} (h : okO g = true) (c : Nat) : -1000 ≤ gainN g c ∧ gainN g c ≤ 1000 := by
  simp only [okO, Bool.and_eq_true, decide_eq_true_eq, allIn_iff] at h
  unfold gainN
  split
  · omega
  · rcases Nat.lt_or_ge (c - 1) g.length with h1 | h1
    · rw [rd_nat g _ h1]; exact h.2 _ (List.getElem_mem h1)
    · have : rd g ((c - 1 : Nat) : Int) = 0 := by simp [rd, h1]
      omega
def bestTo (row g : List Int) (p : Nat) : Nat → Int
  | 0 => rd row (p : Int)
  | c + 1 => max (bestTo row g p c) (rd row ((p - (c + 1) : Nat) : Int) + gainN g (c + 1))
def rowNext (row g : List Int) (P : Nat) : List Int := (List.range (P + 1)).map fun p => bestTo row g p (min p g.length)
def rowAt (gs : List (List Int)) (P : Nat) : Nat → List Int
  | 0 => List.replicate (P + 1) 0
  | i + 1 => rowNext (rowAt gs P i) (gs.getD i []) P
theorem rowNext_len (row g : List Int) (P : Nat) : (rowNext row g P).length = P + 1 := by simp [rowNext]
theorem rowAt_len (gs : List (List Int)) (P i : Nat) : (rowAt gs P i).length = P + 1 := by
  cases i with
  | zero => simp [rowAt]
  | succ i => simp only [rowAt]; exact rowNext_len _ _ _
theorem rowNext_rd (row g : List Int) (P p : Nat) (h : p ≤ P) : rd (rowNext row g P) (p : Int) = bestTo row g p (min p g.length) := by
  rw [rd_nat _ p (by rw [rowNext_len]; omega)]; simp [rowNext]
theorem bestTo_ge (row g : List Int) (p c : Nat) : ∀ e, e ≤ c → rd row ((p - e : Nat) : Int) + gainN g e ≤ bestTo row g p c := by
  induction c with
  | zero => intro e he; obtain rfl : e = 0 := by omega
            simp [bestTo, gainN]
  | succ c ih =>
    intro e he
    simp only [bestTo]
    rcases Nat.lt_or_ge c e with h | h
    · obtain rfl : e = c + 1 := by omega
      omega
    · have := ih e h; omega
theorem bestTo_at (row g : List Int) (p c : Nat) : ∃ e, e ≤ c ∧ rd row ((p - e : Nat) : Int) + gainN g e = bestTo row g p c := by
  induction c with
  | zero => exact ⟨0, Nat.le_refl _, by simp [bestTo, gainN]⟩
  | succ c ih =>
    obtain ⟨e, he, h⟩ := ih
    simp only [bestTo]
    by_cases hx : bestTo row g p c ≤ rd row ((p - (c + 1) : Nat) : Int) + gainN g (c + 1)
    · exact ⟨c + 1, Nat.le_refl _, by omega⟩
    · exact ⟨e, by omega, by omega⟩
theorem rowAt_bound {gs : List (List Int)} (h : ∀ i, i < gs.length → okO (gs.getD i []) = true) (P : Nat) : ∀ i, i ≤ gs.length → ∀ p, p ≤ P → 0 ≤ rd (rowAt gs P i) (p : Int) ∧ rd (rowAt gs P i) (p : Int) ≤ 1000 * (i : Int) := by
  intro i
  induction i with
  | zero => intro _ p hp; simp only [rowAt]; rw [rd_nat _ p (by simp; omega)]; simp
  | succ i ih =>
    intro hi p hp
    simp only [rowAt]
    rw [rowNext_rd _ _ _ _ hp]
    have h0 := bestTo_ge (rowAt gs P i) (gs.getD i []) p (min p (gs.getD i []).length) 0 (Nat.zero_le _)
    obtain ⟨e, he, h1⟩ := bestTo_at (rowAt gs P i) (gs.getD i []) p (min p (gs.getD i []).length)
    have h2 := ih (by omega) p hp
    have h3 := ih (by omega) (p - e) (by omega)
    have h4 := gainN_bound (h i (by omega)) e
    simp only [gainN, if_true, Nat.sub_zero] at h0
    omega
def sumN (f : Nat → Int) : Nat → Int
  | 0 => 0
  | n + 1 => sumN f n + f n
theorem sumN_congr {f g : Nat → Int} {n : Nat} (h : ∀ i, i < n → f i = g i) : sumN f n = sumN g n := by
  induction n with
  | zero => rfl
  | succ n ih => simp only [sumN]; rw [ih fun i hi => h i (by omega), h n (by omega)]
structure Counts (gs : List (List Int)) (n : Nat) (d : Nat → Nat) : Prop where
  le : ∀ i, i < n → d i ≤ (gs.getD i []).length
def valN (gs : List (List Int)) (d : Nat → Nat) (n : Nat) : Int := sumN (fun i => gainN (gs.getD i []) (d i)) n
def plN (d : Nat → Nat) : Nat → Nat
  | 0 => 0
  | n + 1 => plN d n + d n
theorem rowAt_most (gs : List (List Int)) (P : Nat) (d : Nat → Nat) : ∀ n p, Counts gs n d → plN d n ≤ p → p ≤ P → valN gs d n ≤ rd (rowAt gs P n) (p : Int) := by
  intro n
  induction n with
  | zero => intro p _ _ hp; simp only [valN, sumN, rowAt]; rw [rd_nat _ p (by simp; omega)]; simp
  | succ n ih =>
    intro p hc hl hp
    simp only [plN] at hl
    have h1 := ih (p - d n) ⟨fun i hi => hc.le i (by omega)⟩ (by omega) (by omega)
    have h2 := hc.le n (by omega)
    have h3 := bestTo_ge (rowAt gs P n) (gs.getD n []) p (min p (gs.getD n []).length) (d n) (by omega)
    simp only [rowAt]
    rw [rowNext_rd _ _ _ _ hp, show valN gs d (n + 1) = valN gs d n + gainN (gs.getD n []) (d n) from rfl]
    omega

def gl (l : List S53) : List (List Int) := l.map (fun o => o.f0)
theorem gl_len (l : List S53) : (gl l).length = l.length := by simp [gl]
theorem offer_rd (l : List S53) (i : Nat) (h : i < l.length) : rd_T53 l (i : Int) = l[i] := by simp [rd_T53, h]
theorem gl_get (l : List S53) (i : Nat) (h : i < l.length) : (gl l).getD i [] = l[i].f0 := by simp [gl, h]
def offersOk (l : List S53) : Bool := decide (l.length ≤ 12) && l.all (fun o => okO o.f0)
theorem offersOk_iff (l : List S53) : offersOk l = true ↔ l.length ≤ 12 ∧ ∀ i, i < (gl l).length → okO ((gl l).getD i []) = true := by
  simp only [offersOk, Bool.and_eq_true, decide_eq_true_eq, List.all_eq_true]
  constructor
  · rintro ⟨h1, h2⟩
    refine ⟨h1, fun i hi => ?_⟩
    rw [gl_len] at hi
    rw [gl_get l i hi]; exact h2 _ (List.getElem_mem hi)
  · rintro ⟨h1, h2⟩
    refine ⟨h1, fun o ho => ?_⟩
    obtain ⟨i, hi, rfl⟩ := List.getElem_of_mem ho
    have := h2 i (by rw [gl_len]; exact hi)
    rwa [gl_get l i hi] at this
def offered (l : List S53) (p : Int) : Bool := offersOk l && (decide (0 ≤ p) && decide (p ≤ 40))

theorem impl_isOffer_ev (g : List Int) (h : g.length ≤ 1048576) : Ev (fun k => impl_isOffer.f k g) (okO g) := by
  unfold impl_isOffer.f okO
  by_cases h6 : (g.length : Int) ≤ 6
  · rw [decide_eq_true (show g.length ≤ 6 by omega), Bool.true_and]
    exact Ev.pos h6 (Ev.bind (impl_allWithin_ev g (-1000) 1000 (by omega)) (Ev.now _))
  · rw [decide_eq_false (by omega)]; exact Ev.neg h6 (Ev.now _)
theorem impl_GoodOffers_ev (l : List S53) (h : l.length ≤ 1048576) (hg : ∀ o ∈ l, o.f0.length ≤ 1048576) : Ev (fun k => impl_GoodOffers.f k l) (offersOk l) := by
  unfold impl_GoodOffers.f sl0_ContainsFunc.f sl2_IndexFunc.f
  by_cases h12 : (l.length : Int) ≤ 12
  · refine Ev.pos h12 ?_
    obtain ⟨j, hj, hev⟩ := ev_indexFunc l (rd_T53 l) (fun i hi => offer_rd l i hi) (fun k x => impl_GoodOffers_1.f k x.f0) (fun o => !okO o.f0) (fun x hx => by
      unfold impl_GoodOffers_1.f
      exact Ev.bind (impl_isOffer_ev x.f0 (hg x hx)) (Ev.now _)) (fun k i => sl2_IndexFunc.l0 k l (l.length : Int) i) (fun k i => rfl) (by omega)
    refine Ev.to (Ev.bind (Ev.bind hev (Ev.now _)) (Ev.now _)) ?_
    rw [hj, any_not_all]; unfold offersOk
    rw [decide_eq_true (show l.length ≤ 12 by omega)]; simp
  · refine Ev.to (Ev.neg h12 (Ev.now _)) ?_
    unfold offersOk; rw [decide_eq_false (by omega)]; rfl
theorem impl_isOffered_ev (l : List S53) (p : Int) (h : l.length ≤ 1048576) (hg : ∀ o ∈ l, o.f0.length ≤ 1048576) : Ev (fun k => impl_isOffered.f k l p) (offered l p) := by
  unfold impl_isOffered.f offered
  refine Ev.bind (impl_GoodOffers_ev l h hg) (Ev.ite (fun h1 => ?_) (fun h1 => ?_))
  · rw [h1, Bool.true_and]; exact Ev.bind0 (impl_within_eq _ _ _) (Ev.now _)
  · rw [Bool.eq_false_iff.mpr h1, Bool.false_and]; exact Ev.now _

theorem spec_GoodOffers_ev (l : List S53) (h : l.length ≤ 1048576) (hg : ∀ o ∈ l, o.f0.length ≤ 1048576) : Ev (fun k => spec_GoodOffers.f k l) (offersOk l) := by
  unfold spec_GoodOffers.f
  have gen : ∀ (d i : Nat), i + d = l.length → Ev (fun k => spec_GoodOffers.l0 k l l (l.length : Int) (i : Int)) ((l.drop i).all (fun o => okO o.f0) && decide (l.length ≤ 12)) := by
    intro d
    induction d with
    | zero =>
      intro i hi
      rw [List.drop_of_length_le (by omega)]
      refine Ev.succ ?_
      simp only [spec_GoodOffers.l0]
      refine Ev.neg (by omega) (Ev.to (Ev.now _) ?_)
      simp; omega
    | succ d ih =>
      intro i hi
      have hi' : i < l.length := by omega
      have hgi := hg _ (List.getElem_mem hi')
      rw [List.drop_eq_getElem_cons hi', List.all_cons]
      refine Ev.succ ?_
      simp only [spec_GoodOffers.l0]
      rw [offer_rd l i hi', w64n hi' (by omega)]
      refine Ev.pos (by omega) (Ev.pos (by omega) (Ev.pos (by omega) (Ev.ite (fun h1 => ?_) (fun h1 => Ev.bind (spec_l1All_ev _ (-1000) 1000 (by omega)) (Ev.ite (fun h2 => ?_) (fun h2 => ?_))))))
      · have : okO l[i].f0 = false := by unfold okO; rw [decide_eq_false (by omega)]; rfl
        rw [this]; exact Ev.now _
      · have : okO l[i].f0 = true := by unfold okO; rw [decide_eq_true (by omega), h2]; rfl
        rw [this, Bool.true_and]; exact ih (i + 1) (by omega)
      · have : okO l[i].f0 = false := by unfold okO; rw [Bool.eq_false_iff.mpr h2, Bool.and_false]
        rw [this]; exact Ev.now _
  refine Ev.to (gen l.length 0 (by omega)) ?_
  unfold offersOk; rw [List.drop_zero, Bool.and_comm]

def tabs (gs : List (List Int)) (P n : Nat) : List (List Int) := (List.range n).map (rowAt gs P)
theorem tabs_len (gs : List (List Int)) (P n : Nat) : (tabs gs P n).length = n := by simp [tabs]
theorem tabs_succ (gs : List (List Int)) (P n : Nat) : tabs gs P (n + 1) = tabs gs P n ++ [rowAt gs P n] := by unfold tabs; rw [List.range_succ, List.map_append]; rfl
theorem tabs_rd (gs : List (List Int)) (P n i : Nat) (h : i < n) : rd_L2 (tabs gs P n) (i : Int) = rowAt gs P i := by simp [rd_L2, tabs, h]
theorem set_fill (f : Nat → Int) (row : List Int) (w : Nat) (h : w < row.length) (v : Int) (hv : v = f w) : ((List.range w).map f ++ row.drop w).set w v = (List.range (w + 1)).map f ++ row.drop (w + 1) := by
  rw [List.set_append_right _ _ (by simp), List.length_map, List.length_range, Nat.sub_self, List.drop_eq_getElem_cons h, List.set_cons_zero, List.range_succ, List.map_append, List.append_assoc, hv]; rfl

theorem impl_gain_eq (g : List Int) (c : Nat) (h : c ≤ g.length) (hl : g.length ≤ 1048576) : impl_Offer_gain.f g (c : Int) = some (gainN g c) := by
  unfold impl_Offer_gain.f gainN
  by_cases h0 : c = 0
  · rw [if_pos (by omega), if_pos h0]
  · rw [if_neg (by omega), if_neg h0, w64 (by omega) (by omega), show (c : Int) - 1 = ((c - 1 : Nat) : Int) by omega, if_pos (by omega), if_pos (by omega)]
theorem impl_tables_ev (l : List S53) (P : Nat) (hP : P ≤ 40) (hok : offersOk l = true) : Ev (fun k => impl_tables.f k l (P : Int)) (tabs (gl l) P (l.length + 1)) := by
  obtain ⟨h12, hg⟩ := (offersOk_iff l).mp hok
  rw [gl_len] at hg
  unfold impl_tables.f
  rw [w64 (x := (P : Int) + 1) (by omega) (by omega), show (P : Int) + 1 = ((P + 1 : Nat) : Int) by omega, toNat_nat]
  refine Ev.pos (by omega) (Ev.pos (by omega) ?_)
  have e1 : ([List.replicate (P + 1) 0] : List (List Int)) = tabs (gl l) P 1 := by simp [tabs, rowAt]
  rw [e1]
  refine ev_up l.length (fun k i => impl_tables.l0 k (tabs (gl l) P (i + 1)) l (l.length : Int) (i : Int)) _ (fun _ => True) trivial ?_ ?_
  · intro _; refine Ev.succ ?_; simp only [impl_tables.l0]; exact Ev.neg (by omega) (Ev.now _)
  · intro i hi _ hn
    have hn := hn trivial
    have hgi := hg i hi
    have hb := rowAt_bound (gs := gl l) (by rw [gl_len]; exact hg) P i (by rw [gl_len]; omega)
    have hgl : ((gl l).getD i []).length ≤ 6 := by simp only [okO, Bool.and_eq_true, decide_eq_true_eq] at hgi; exact hgi.1
    refine Ev.succ ?_
    simp only [impl_tables.l0]
    rw [tabs_rd _ _ _ _ (by omega), offer_rd l i hi, tabs_len]
    refine Ev.pos (by omega) (Ev.pos (by omega) (Ev.pos (by omega) (Ev.pos (by omega) (Ev.bind0 (a := rowAt (gl l) P i) ?_ ?_))))
    · unfold slices_Clone_int_int.f
      simp only [Option.bind_some, List.nil_append, List.length_nil, Nat.zero_add]
      rw [if_pos (by rw [rowAt_len]; omega)]
    rw [← gl_get l i hi, rowAt_len]
    have key := ev_up (P + 1) (fun k w => impl_tables.l1 k (tabs (gl l) P (i + 1)) (i : Int) ((List.range w).map (fun p => bestTo (rowAt (gl l) P i) ((gl l).getD i []) p (min p ((gl l).getD i []).length)) ++ (rowAt (gl l) P i).drop w) l (l.length : Int) (i : Int) ((P + 1 : Nat) : Int) (w : Int) ((gl l).getD i [])) (tabs (gl l) P (l.length + 1)) (fun _ => True) trivial ?_ ?_
    · simpa using key
    · intro _
      refine Ev.succ ?_
      simp only [impl_tables.l1]
      rw [w64n hi (by omega)]
      refine Ev.neg (by omega) (Ev.pos (by rw [tabs_len]; omega) ?_)
      rw [tabs_succ] at hn
      rw [List.drop_of_length_le (by rw [rowAt_len]; omega), List.append_nil]
      exact hn
    · intro w hw _ hnw
      have hnw := hnw trivial
      refine Ev.succ ?_
      simp only [impl_tables.l1]
      refine Ev.pos (by omega) ?_
      generalize hg' : (gl l).getD i [] = g at *
      have inner : ∀ (d c : Nat), c + d = min w g.length → Ev (fun k => impl_tables.l2 k (tabs (gl l) P (i + 1)) (i : Int) (((List.range w).map (fun p => bestTo (rowAt (gl l) P i) g p (min p g.length)) ++ (rowAt (gl l) P i).drop w).set w (bestTo (rowAt (gl l) P i) g w c)) (w : Int) ((c : Int) + 1) l (l.length : Int) (i : Int) ((P + 1 : Nat) : Int) (w : Int) g) (tabs (gl l) P (l.length + 1)) := by
        intro d
        induction d with
        | zero =>
          intro c hc
          refine Ev.succ ?_
          simp only [impl_tables.l2]
          rw [mn_min, w64 (x := (w : Int) + 1) (by omega) (by omega), show (w : Int) + 1 = ((w + 1 : Nat) : Int) by omega]
          refine Ev.neg (by omega) ?_
          rw [set_fill _ _ _ (by rw [rowAt_len]; omega) _ (by rw [show c = min w g.length by omega])]
          exact hnw
        | succ d ih =>
          intro c hc
          have hl8 : (((List.range w).map (fun p => bestTo (rowAt (gl l) P i) g p (min p g.length)) ++ (rowAt (gl l) P i).drop w).set w (bestTo (rowAt (gl l) P i) g w c)).length = P + 1 := by
            simp [rowAt_len]; omega
          have r1 : rd (((List.range w).map (fun p => bestTo (rowAt (gl l) P i) g p (min p g.length)) ++ (rowAt (gl l) P i).drop w).set w (bestTo (rowAt (gl l) P i) g w c)) (w : Int) = bestTo (rowAt (gl l) P i) g w c := by
            rw [rd_nat _ w (by rw [hl8]; omega)]; simp
          have b1 := hb (w - (c + 1)) (by omega)
          have b2 := gainN_bound hgi (c + 1)
          refine Ev.succ ?_
          simp only [impl_tables.l2]
          rw [mn_min, hl8, tabs_len, tabs_rd _ _ _ _ (by omega), rowAt_len, w64 (x := (w : Int) - ((c : Int) + 1)) (by omega) (by omega), show (w : Int) - ((c : Int) + 1) = ((w - (c + 1) : Nat) : Int) by omega, show (c : Int) + 1 = ((c + 1 : Nat) : Int) by omega, toNat_nat, r1]
          refine Ev.pos (by omega) (Ev.pos (by omega) (Ev.pos (by omega) (Ev.pos (by omega) (Ev.pos (by omega) (Ev.pos (by omega) (Ev.pos (by omega) (Ev.bind0 (impl_gain_eq g (c + 1) (by omega) (by omega)) ?_)))))))
          rw [mx_max, w64 (x := rd (rowAt (gl l) P i) ((w - (c + 1) : Nat) : Int) + gainN g (c + 1)) (by omega) (by omega), w64 (x := ((c + 1 : Nat) : Int) + 1) (by omega) (by omega), List.set_set]
          exact ih (c + 1) (by omega)
      have h0 := inner (min w g.length) 0 (by omega)
      have e0 : ((List.range w).map (fun p => bestTo (rowAt (gl l) P i) g p (min p g.length)) ++ (rowAt (gl l) P i).drop w).set w (bestTo (rowAt (gl l) P i) g w 0) = (List.range w).map (fun p => bestTo (rowAt (gl l) P i) g p (min p g.length)) ++ (rowAt (gl l) P i).drop w := by
        have hw' : w < (rowAt (gl l) P i).length := by rw [rowAt_len]; omega
        rw [List.set_append_right _ _ (by simp), List.length_map, List.length_range, Nat.sub_self, List.drop_eq_getElem_cons hw', List.set_cons_zero]
        simp only [bestTo]; rw [rd_nat _ w hw']
      rw [e0] at h0
      exact h0

theorem spec_gain_eq (g : List Int) (c : Nat) (h : c ≤ g.length) (hl : g.length ≤ 1048576) : spec_l6Gain.f g (c : Int) = some (gainN g c) := by
  unfold spec_l6Gain.f gainN
  by_cases h0 : c = 0
  · rw [if_pos (by omega), if_pos h0]
  · rw [if_neg (by omega), if_neg h0, w64 (by omega) (by omega), show (c : Int) - 1 = ((c - 1 : Nat) : Int) by omega, if_pos (by omega), if_pos (by omega)]
theorem spec_l6Rows_ev (l : List S53) (P : Nat) (hP : P ≤ 40) (hok : offersOk l = true) : Ev (fun k => spec_l6Rows.f k l (P : Int)) (tabs (gl l) P (l.length + 1)) := by
  obtain ⟨h12, hg⟩ := (offersOk_iff l).mp hok
  rw [gl_len] at hg
  unfold spec_l6Rows.f
  rw [w64 (x := (P : Int) + 1) (by omega) (by omega), show (P : Int) + 1 = ((P + 1 : Nat) : Int) by omega, toNat_nat]
  refine Ev.pos (by omega) (Ev.pos (by omega) (Ev.bind0 rfl ?_))
  have e1 : ([List.replicate (P + 1) 0] : List (List Int)) = tabs (gl l) P 1 := by simp [tabs, rowAt]
  rw [e1]
  refine ev_up l.length (fun k i => spec_l6Rows.l0 k (P : Int) (rowAt (gl l) P i) (tabs (gl l) P (i + 1)) l (l.length : Int) (i : Int)) _ (fun _ => True) trivial ?_ ?_
  · intro _; refine Ev.succ ?_; simp only [spec_l6Rows.l0]; exact Ev.neg (by omega) (Ev.now _)
  · intro i hi _ hn
    have hn := hn trivial
    have hgi := hg i hi
    have hb := rowAt_bound (gs := gl l) (by rw [gl_len]; exact hg) P i (by rw [gl_len]; omega)
    have hgl : ((gl l).getD i []).length ≤ 6 := by simp only [okO, Bool.and_eq_true, decide_eq_true_eq] at hgi; exact hgi.1
    refine Ev.succ ?_
    simp only [spec_l6Rows.l0]
    rw [w64 (x := (P : Int) + 1) (by omega) (by omega), show (P : Int) + 1 = ((P + 1 : Nat) : Int) by omega, toNat_nat, offer_rd l i hi]
    refine Ev.pos (by omega) (Ev.pos (by omega) (Ev.pos (by omega) (Ev.pos (by omega) (Ev.pos (by omega) (Ev.bind0 rfl ?_)))))
    rw [← gl_get l i hi, List.length_replicate]
    have key := ev_up (P + 1) (fun k w => spec_l6Rows.l1 k (P : Int) (rowAt (gl l) P i) (tabs (gl l) P (i + 1)) ((List.range w).map (fun p => bestTo (rowAt (gl l) P i) ((gl l).getD i []) p (min p ((gl l).getD i []).length)) ++ (List.replicate (P + 1) 0).drop w) l (l.length : Int) (i : Int) ((P + 1 : Nat) : Int) (w : Int) ((gl l).getD i [])) (tabs (gl l) P (l.length + 1)) (fun _ => True) trivial ?_ ?_
    · simpa using key
    · intro _
      refine Ev.succ ?_
      simp only [spec_l6Rows.l1]
      rw [w64n hi (by omega)]
      refine Ev.neg (by omega) (Ev.pos (by rw [tabs_len]; omega) ?_)
      rw [tabs_succ] at hn
      rw [List.drop_of_length_le (by simp), List.append_nil]
      exact hn
    · intro w hw _ hnw
      have hnw := hnw trivial
      refine Ev.succ ?_
      simp only [spec_l6Rows.l1]
      rw [rowAt_len]
      refine Ev.pos (by omega) (Ev.pos (by omega) (Ev.pos (by omega) ?_))
      generalize hg' : (gl l).getD i [] = g at *
      have inner : ∀ (d c : Nat), c + d = min w g.length → Ev (fun k => spec_l6Rows.l2 k (P : Int) (rowAt (gl l) P i) (tabs (gl l) P (i + 1)) ((List.range w).map (fun p => bestTo (rowAt (gl l) P i) g p (min p g.length)) ++ (List.replicate (P + 1) 0).drop w) (w : Int) (bestTo (rowAt (gl l) P i) g w c) ((c : Int) + 1) l (l.length : Int) (i : Int) ((P + 1 : Nat) : Int) (w : Int) g) (tabs (gl l) P (l.length + 1)) := by
        intro d
        induction d with
        | zero =>
          intro c hc
          have fin : Ev (fun k => spec_l6Rows.j3 k (P : Int) (rowAt (gl l) P i) (tabs (gl l) P (i + 1)) ((List.range w).map (fun p => bestTo (rowAt (gl l) P i) g p (min p g.length)) ++ (List.replicate (P + 1) 0).drop w) (w : Int) (bestTo (rowAt (gl l) P i) g w c) ((c : Int) + 1) l (l.length : Int) (i : Int) ((P + 1 : Nat) : Int) (w : Int) false g) (tabs (gl l) P (l.length + 1)) := by
            refine Ev.succ ?_
            simp only [spec_l6Rows.j3]
            rw [w64 (x := (w : Int) + 1) (by omega) (by omega), show (w : Int) + 1 = ((w + 1 : Nat) : Int) by omega, toNat_nat]
            refine Ev.neg (by simp) (Ev.pos (by omega) (Ev.pos (by simp; omega) ?_))
            rw [set_fill _ _ _ (by simp; omega) _ (by rw [show c = min w g.length by omega])]
            exact hnw
          refine Ev.succ ?_
          simp only [spec_l6Rows.l2]
          refine Ev.ite (fun h => ?_) (fun _ => fin)
          rw [decide_eq_false (by omega)]; exact fin
        | succ d ih =>
          intro c hc
          have b1 := hb (w - (c + 1)) (by omega)
          have b2 := gainN_bound hgi (c + 1)
          have hi2 := ih (c + 1) (by omega)
          refine Ev.succ ?_
          simp only [spec_l6Rows.l2]
          refine Ev.pos (by omega) ?_
          rw [decide_eq_true (by omega)]
          refine Ev.succ ?_
          simp only [spec_l6Rows.j3]
          rw [rowAt_len, w64 (x := (w : Int) - ((c : Int) + 1)) (by omega) (by omega), show (w : Int) - ((c : Int) + 1) = ((w - (c + 1) : Nat) : Int) by omega, show (c : Int) + 1 = ((c + 1 : Nat) : Int) by omega, w64 (x := ((c + 1 : Nat) : Int) + 1) (by omega) (by omega)]
          refine Ev.pos trivial (Ev.pos (by omega) (Ev.pos (by omega) (Ev.bind0 (spec_gain_eq g (c + 1) (by omega) (by omega)) ?_)))
          rw [w64 (x := rd (rowAt (gl l) P i) ((w - (c + 1) : Nat) : Int) + gainN g (c + 1)) (by omega) (by omega)]
          simp only [bestTo] at hi2
          refine Ev.ite (fun h => ?_) (fun h => ?_)
          · rw [show max (bestTo (rowAt (gl l) P i) g w c) (rd (rowAt (gl l) P i) ((w - (c + 1) : Nat) : Int) + gainN g (c + 1)) = rd (rowAt (gl l) P i) ((w - (c + 1) : Nat) : Int) + gainN g (c + 1) by omega] at hi2
            exact hi2
          · rw [show max (bestTo (rowAt (gl l) P i) g w c) (rd (rowAt (gl l) P i) ((w - (c + 1) : Nat) : Int) + gainN g (c + 1)) = bestTo (rowAt (gl l) P i) g w c by omega] at hi2
            exact hi2
      have h0 := inner (min w g.length) 0 (by omega)
      exact h0

theorem plN_congr {d e : Nat → Nat} {n : Nat} (h : ∀ i, i < n → d i = e i) : plN d n = plN e n := by
  induction n with
  | zero => rfl
  | succ n ih => simp only [plN]; rw [ih fun i hi => h i (by omega), h n (by omega)]
theorem rd_setc (o : List Int) (b x : Nat) (v : Int) (h : b < o.length) : rd (o.set b v) (x : Int) = if x = b then v else rd o (x : Int) := by
  simp only [rd, Int.toNat_natCast, List.getD_eq_getElem?_getD, List.getElem?_set]
  by_cases hx : b = x
  · subst hx; simp [h]
  · rw [if_neg hx, if_neg (fun e => hx e.symm)]
theorem exists_pick (gs : List (List Int)) (P i left : Nat) (h : left ≤ P) : ∃ c, (c ≤ left ∧ c ≤ (gs.getD i []).length) ∧ rd (rowAt gs P i) ((left - c : Nat) : Int) + gainN (gs.getD i []) c = rd (rowAt gs P (i + 1)) (left : Int) := by
  obtain ⟨e, he, h1⟩ := bestTo_at (rowAt gs P i) (gs.getD i []) left (min left (gs.getD i []).length)
  refine ⟨e, by omega, ?_⟩
  simp only [rowAt]
  rw [rowNext_rd _ _ _ _ h, h1]

theorem choice_back (l : List S53) (P : Nat) (hP : P ≤ 40) (hok : offersOk l = true) : ∀ (i : Nat), i ≤ l.length → ∀ (left : Nat), left ≤ P → ∀ (cs : List Int), cs.length = l.length →
    ∃ cs', Ev (fun k => impl_BestChoice.l0 k l (P : Int) (tabs (gl l) P (l.length + 1)) cs (left : Int) ((i : Int) - 1)) (cs', rd (rowAt (gl l) P l.length) (P : Int), true) ∧
      Ev (fun k => spec_BestChoice.l0 k l (P : Int) (tabs (gl l) P (l.length + 1)) cs (left : Int) ((i : Int) - 1)) (cs', rd (rowAt (gl l) P l.length) (P : Int), true) ∧ cs'.length = l.length ∧
      (∀ j : Nat, i ≤ j → j < l.length → rd cs' (j : Int) = rd cs (j : Int)) ∧ ∃ d : Nat → Nat, (∀ j : Nat, j < i → rd cs' (j : Int) = (d j : Int)) ∧ Counts (gl l) i d ∧ plN d i ≤ left ∧ valN (gl l) d i = rd (rowAt (gl l) P i) (left : Int) := by
  obtain ⟨h12, hg⟩ := (offersOk_iff l).mp hok
  rw [gl_len] at hg
  intro i
  induction i with
  | zero =>
    intro _ left hl cs hcs
    refine ⟨cs, ?_, ?_, hcs, fun _ _ _ => rfl, fun _ => 0, fun j hj => by omega, ⟨fun j hj => by omega⟩, Nat.zero_le _, ?_⟩
    · refine Ev.succ ?_
      simp only [impl_BestChoice.l0]
      rw [tabs_len, tabs_rd _ _ _ _ (by omega), rowAt_len]
      exact Ev.neg (by omega) (Ev.pos (by omega) (Ev.pos (by omega) (Ev.pos (by omega) (Ev.pos (by omega) (Ev.now _)))))
    · refine Ev.succ ?_
      simp only [spec_BestChoice.l0]
      rw [tabs_len, tabs_rd _ _ _ _ (by omega), rowAt_len]
      exact Ev.neg (by omega) (Ev.pos (by omega) (Ev.pos (by omega) (Ev.pos (by omega) (Ev.pos (by omega) (Ev.now _)))))
    · simp only [valN, sumN, rowAt]; rw [rd_nat _ left (by simp; omega)]; simp
  | succ i ih =>
    intro hi left hl cs hcs
    have hi' : i < l.length := by omega
    have hgi := hg i hi'
    have hgl : ((gl l).getD i []).length ≤ 6 := by simp only [okO, Bool.and_eq_true, decide_eq_true_eq] at hgi; exact hgi.1
    have hb := rowAt_bound (gs := gl l) (by rw [gl_len]; exact hg) P i (by rw [gl_len]; omega)
    obtain ⟨c, ⟨⟨hc1, hc2⟩, hc3⟩, hmin⟩ := exists_least (exists_pick (gl l) P i left hl)
    obtain ⟨cs', hI, hS, hl', hkeep, d, hd1, hd2, hd3, hd4⟩ := ih (by omega) (left - c) (by omega) (cs.set i (c : Int)) (by simp; exact hcs)
    have ne : ∀ j, j < c → ¬ (rd (rowAt (gl l) P i) ((left - j : Nat) : Int) + gainN ((gl l).getD i []) j = rd (rowAt (gl l) P (i + 1)) (left : Int)) := fun j hj h => by
      have := hmin j ⟨by omega, h⟩; omega
    have wi : ∀ j, j ≤ c → wrap64 (rd (rowAt (gl l) P i) ((left - j : Nat) : Int) + gainN ((gl l).getD i []) j) = rd (rowAt (gl l) P i) ((left - j : Nat) : Int) + gainN ((gl l).getD i []) j := fun j hj => by
      have b1 := hb (left - j) (by omega)
      have b2 := gainN_bound hgi j
      exact w64 (by omega) (by omega)
    refine ⟨cs', ?_, ?_, hl', fun j hj hj2 => ?_, fun j => if j = i then c else d j, fun j hj => ?_, ⟨fun j hj => ?_⟩, ?_, ?_⟩
    · refine Ev.succ ?_
      simp only [impl_BestChoice.l0]
      rw [show ((i + 1 : Nat) : Int) - 1 = (i : Int) by omega]
      refine Ev.pos (by omega) ?_
      refine ev_up c (fun k j => impl_BestChoice.l1 k l (P : Int) (tabs (gl l) P (l.length + 1)) cs (left : Int) (i : Int) (j : Int)) _ (fun _ => True) trivial (fun _ => ?_) (fun j hj _ hn => ?_)
      · refine Ev.succ ?_
        simp only [impl_BestChoice.l1]
        rw [tabs_len, w64 (x := (left : Int) - (c : Int)) (by omega) (by omega), show (left : Int) - (c : Int) = ((left - c : Nat) : Int) by omega, w64 (x := (i : Int) + 1) (by omega) (by omega), show (i : Int) + 1 = ((i + 1 : Nat) : Int) by omega, tabs_rd _ _ _ _ (by omega), tabs_rd _ _ _ _ (by omega), rowAt_len, rowAt_len, offer_rd l i hi', ← gl_get l i hi', w64 (x := (i : Int) - 1) (by omega) (by omega), toNat_nat]
        refine Ev.pos (by omega) (Ev.pos (by omega) (Ev.pos (by omega) (Ev.pos (by omega) (Ev.pos (by omega) (Ev.bind0 (impl_gain_eq _ c hc2 (by omega)) (Ev.pos (by omega) (Ev.pos (by omega) (Ev.pos (by omega) (Ev.pos (by omega) (Ev.pos ?_ (Ev.pos (by omega) hI)))))))))))
        rw [wi c (Nat.le_refl _)]; exact hc3
      · have hn := hn trivial
        refine Ev.succ ?_
        simp only [impl_BestChoice.l1]
        rw [tabs_len, w64 (x := (left : Int) - (j : Int)) (by omega) (by omega), show (left : Int) - (j : Int) = ((left - j : Nat) : Int) by omega, w64 (x := (i : Int) + 1) (by omega) (by omega), show (i : Int) + 1 = ((i + 1 : Nat) : Int) by omega, tabs_rd _ _ _ _ (by omega), tabs_rd _ _ _ _ (by omega), rowAt_len, rowAt_len, offer_rd l i hi', ← gl_get l i hi', w64 (x := (j : Int) + 1) (by omega) (by omega)]
        refine Ev.pos (by omega) (Ev.pos (by omega) (Ev.pos (by omega) (Ev.pos (by omega) (Ev.pos (by omega) (Ev.bind0 (impl_gain_eq _ j (by omega) (by omega)) (Ev.pos (by omega) (Ev.pos (by omega) (Ev.pos (by omega) (Ev.pos (by omega) (Ev.neg ?_ hn))))))))))
        rw [wi j (by omega)]; exact ne j hj
    · refine Ev.succ ?_
      simp only [spec_BestChoice.l0]
      rw [show ((i + 1 : Nat) : Int) - 1 = (i : Int) by omega]
      refine Ev.pos (by omega) ?_
      refine ev_up c (fun k j => spec_BestChoice.l1 k l (P : Int) (tabs (gl l) P (l.length + 1)) cs (left : Int) (i : Int) (j : Int)) _ (fun _ => True) trivial (fun _ => ?_) (fun j hj _ hn => ?_)
      · refine Ev.succ ?_
        simp only [spec_BestChoice.l1]
        rw [tabs_len, w64 (x := (left : Int) - (c : Int)) (by omega) (by omega), show (left : Int) - (c : Int) = ((left - c : Nat) : Int) by omega, w64 (x := (i : Int) + 1) (by omega) (by omega), show (i : Int) + 1 = ((i + 1 : Nat) : Int) by omega, tabs_rd _ _ _ _ (by omega), tabs_rd _ _ _ _ (by omega), rowAt_len, rowAt_len, offer_rd l i hi', ← gl_get l i hi', w64 (x := (i : Int) - 1) (by omega) (by omega), toNat_nat]
        refine Ev.pos (by omega) (Ev.pos (by omega) (Ev.pos (by omega) (Ev.pos (by omega) (Ev.pos (by omega) (Ev.bind0 (spec_gain_eq _ c hc2 (by omega)) (Ev.pos (by omega) (Ev.pos (by omega) (Ev.pos (by omega) (Ev.pos (by omega) (Ev.pos ?_ (Ev.pos (by omega) hS)))))))))))
        rw [wi c (Nat.le_refl _)]; exact hc3
      · have hn := hn trivial
        refine Ev.succ ?_
        simp only [spec_BestChoice.l1]
        rw [tabs_len, w64 (x := (left : Int) - (j : Int)) (by omega) (by omega), show (left : Int) - (j : Int) = ((left - j : Nat) : Int) by omega, w64 (x := (i : Int) + 1) (by omega) (by omega), show (i : Int) + 1 = ((i + 1 : Nat) : Int) by omega, tabs_rd _ _ _ _ (by omega), tabs_rd _ _ _ _ (by omega), rowAt_len, rowAt_len, offer_rd l i hi', ← gl_get l i hi', w64 (x := (j : Int) + 1) (by omega) (by omega)]
        refine Ev.pos (by omega) (Ev.pos (by omega) (Ev.pos (by omega) (Ev.pos (by omega) (Ev.pos (by omega) (Ev.bind0 (spec_gain_eq _ j (by omega) (by omega)) (Ev.pos (by omega) (Ev.pos (by omega) (Ev.pos (by omega) (Ev.pos (by omega) (Ev.neg ?_ hn))))))))))
        rw [wi j (by omega)]; exact ne j hj
    · rw [hkeep j (by omega) hj2, rd_setc cs i j (c : Int) (by omega), if_neg (by omega)]
    · show rd cs' (j : Int) = ((if j = i then c else d j : Nat) : Int)
      by_cases e : j = i
      · subst e; rw [if_pos rfl, hkeep j (Nat.le_refl _) (by omega), rd_setc cs j j (c : Int) (by omega), if_pos rfl]
      · rw [if_neg e]; exact hd1 j (by omega)
    · by_cases e : j = i
      · subst e; rw [if_pos rfl]; exact hc2
      · rw [if_neg e]; exact hd2.le j (by omega)
    · simp only [plN]
      rw [plN_congr (e := d) (fun j hj => if_neg (by omega)), if_pos trivial]; omega
    · have e1 : valN (gl l) (fun j => if j = i then c else d j) (i + 1) = valN (gl l) d i + gainN ((gl l).getD i []) c := by
        simp only [valN, sumN]
        rw [sumN_congr (g := fun j => gainN ((gl l).getD j []) (d j)) (fun j hj => by rw [if_neg (by omega)]), if_pos trivial]
      rw [e1, hd4, hc3]
theorem BestChoice_ev (l : List S53) (p : Int) (h : l.length ≤ 1048576) (hg : ∀ o ∈ l, o.f0.length ≤ 1048576) : ∃ cs n ok, Ev (fun k => impl_BestChoice.f k l p) (cs, n, ok) ∧ Ev (fun k => spec_BestChoice.f k l p) (cs, n, ok) ∧ ok = offered l p ∧ cs.length ≤ 12 ∧
    (offered l p = true → ∃ P : Nat, p = (P : Int) ∧ P ≤ 40 ∧ n = rd (rowAt (gl l) P l.length) (P : Int) ∧ cs.length = l.length ∧ ∃ d : Nat → Nat, (∀ j : Nat, j < l.length → rd cs (j : Int) = (d j : Int)) ∧ Counts (gl l) l.length d ∧ plN d l.length ≤ P ∧ valN (gl l) d l.length = n) := by
  unfold impl_BestChoice.f spec_BestChoice.f
  have e1 := impl_isOffered_ev l p h hg
  have e2 := spec_GoodOffers_ev l h hg
  have no : ∀ x : Bool, x = true → Ev (fun k => spec_BestChoice.j0 k l p x) ([], 0, false) := fun x hx => by
    refine Ev.succ ?_; simp only [spec_BestChoice.j0]; exact Ev.pos hx (Ev.now _)
  have pl : spec_l6Places.f p = some (decide (0 ≤ p) && decide (p ≤ 40)) := by unfold spec_l6Places.f; rw [spec_l1In_eq]; rfl
  by_cases hok : offered l p = true
  · have hok' := hok
    simp only [offered, Bool.and_eq_true, decide_eq_true_eq] at hok'
    obtain ⟨ho, hp0, hp40⟩ := hok'
    obtain ⟨h12, _⟩ := (offersOk_iff l).mp ho
    obtain ⟨P, rfl⟩ := exists_nat_of_nonneg hp0
    obtain ⟨cs, hI, hS, hl, _, d, hd1, hd2, hd3, hd4⟩ := choice_back l P (by omega) ho l.length (Nat.le_refl _) P (Nat.le_refl _) (List.replicate l.length 0) (by simp)
    refine ⟨cs, rd (rowAt (gl l) P l.length) (P : Int), true, Ev.bind e1 (Ev.pos hok (Ev.bind (impl_tables_ev l P (by omega) ho) (Ev.pos (by omega) (Ev.pos (by rw [toNat_nat]; omega) ?_)))), Ev.bind e2 (Ev.pos ho (Ev.bind0 pl ?_)), hok.symm, by omega, fun _ => ⟨P, rfl, by omega, rfl, hl, d, hd1, hd2, hd3, hd4⟩⟩
    · rw [toNat_nat, w64 (by omega) (by omega)]; exact hI
    · rw [decide_eq_true hp0, decide_eq_true hp40]
      refine Ev.succ ?_
      simp only [spec_BestChoice.j0]
      refine Ev.neg (by simp) (Ev.bind (spec_l6Rows_ev l P (by omega) ho) (Ev.pos (by omega) (Ev.pos (by rw [toNat_nat]; omega) ?_)))
      rw [toNat_nat, w64 (by omega) (by omega)]; exact hS
  · refine ⟨[], 0, false, Ev.bind e1 (Ev.neg hok (Ev.now _)), Ev.bind e2 (Ev.ite (fun h1 => Ev.bind0 pl (no _ ?_)) (fun _ => no _ rfl)), (Bool.eq_false_iff.mpr hok).symm, by simp, fun h => absurd h hok⟩
    unfold offered at hok
    rw [h1, Bool.true_and] at hok
    rw [Bool.eq_false_iff.mpr hok]; rfl

def inAt (l : List S53) (cs : List Int) (i : Nat) : Bool := decide (0 ≤ rd cs (i : Int)) && decide (rd cs (i : Int) ≤ (((gl l).getD i []).length : Int))
def valTo (l : List S53) (cs : List Int) (i : Nat) : Int := sumN (fun j => gainN ((gl l).getD j []) (rd cs (j : Int)).toNat) i
def valOk (l : List S53) (cs : List Int) : Bool := offersOk l && (decide (cs.length = l.length) && allTo (inAt l cs) cs.length)
def valF (l : List S53) (cs : List Int) : Int × Bool := if valOk l cs = true then (valTo l cs cs.length, true) else (0, false)
def maxTo (g : List Int) : Nat → Int
  | 0 => 0
  | i + 1 => max (maxTo g i) (rd g (i : Int))
def boundTo (l : List S53) (i : Nat) : Int := sumN (fun j => maxTo ((gl l).getD j []) ((gl l).getD j []).length) i
def boundF (l : List S53) (p : Int) : Int × Bool := if offered l p = true then (boundTo l l.length, true) else (0, false)
theorem allIn_two (a b lo hi : Int) : allIn [a, b] lo hi = ((decide (lo ≤ a) && decide (a ≤ hi)) && (decide (lo ≤ b) && decide (b ≤ hi))) := by simp [allIn]
theorem GainsOf_ev (p f s c : Int) : ∃ (g : List Int) (ok : Bool), Ev (fun k => impl_GainsOf.f k p f s c) (g, ok) ∧ Ev (fun k => spec_GainsOf.f k p f s c) (g, ok) ∧ g.length ≤ 6 := by
  unfold impl_GainsOf.f spec_GainsOf.f
  have no1 : ∀ x : Bool, x = true → Ev (fun k => impl_GainsOf.j0 k p f s c x) ([], false) := fun x hx => by
    refine Ev.succ ?_; simp only [impl_GainsOf.j0]; exact Ev.pos hx (Ev.now _)
  have no2 : ∀ x : Bool, x = true → Ev (fun k => spec_GainsOf.j0 k p f s c x) ([], false) := fun x hx => by
    refine Ev.succ ?_; simp only [spec_GainsOf.j0]; exact Ev.pos hx (Ev.now _)
  have a1 := impl_allWithin_ev [p, f] 0 100 (by simp)
  have a2 := impl_allWithin_ev [s, c] 0 10 (by simp)
  rw [allIn_two] at a1 a2
  have loop : ∀ (d n : Nat) (x : List Int), n + d = 7 → 1 ≤ n → x.length + 1 = n → ∃ (g : List Int) (ok : Bool), Ev (fun k => impl_GainsOf.l0 k p f s c (n : Int) x) (g, ok) ∧ Ev (fun k => spec_GainsOf.l0 k p f s c (n : Int) x) (g, ok) ∧ g.length ≤ 6 := by
    intro d
    induction d with
    | zero =>
      intro n x hn h1 hx
      have e1 := impl_isOffer_ev x (by omega)
      have e2 := spec_GoodOffers_ev [⟨x⟩] (by simp) (fun o ho => by rw [List.mem_singleton] at ho; subst ho; show x.length ≤ _; omega)
      have e3 : offersOk [⟨x⟩] = okO x := by simp [offersOk]
      rw [e3] at e2
      cases hb : okO x with
      | true =>
        rw [hb] at e1 e2
        refine ⟨x, true, ?_, ?_, by omega⟩
        · refine Ev.succ ?_; simp only [impl_GainsOf.l0]; exact Ev.neg (by omega) (Ev.bind e1 (Ev.pos rfl (Ev.now _)))
        · refine Ev.succ ?_; simp only [spec_GainsOf.l0]; exact Ev.neg (by omega) (Ev.bind e2 (Ev.pos rfl (Ev.now _)))
      | false =>
        rw [hb] at e1 e2
        refine ⟨[], false, ?_, ?_, by simp⟩
        · refine Ev.succ ?_; simp only [impl_GainsOf.l0]; exact Ev.neg (by omega) (Ev.bind e1 (Ev.neg (by simp) (Ev.now _)))
        · refine Ev.succ ?_; simp only [spec_GainsOf.l0]; exact Ev.neg (by omega) (Ev.bind e2 (Ev.neg (by simp) (Ev.now _)))
    | succ d ih =>
      intro n x hn h1 hx
      obtain ⟨g, ok, h2, h3, h4⟩ := ih (n + 1) (x ++ [wrap64 ((wrap64 (s * p)) - (wrap64 (Int.tdiv (wrap64 ((wrap64 ((wrap64 (c * f)) + (n : Int))) - 1)) (n : Int))))]) (by omega) (by omega) (by simp; omega)
      refine ⟨g, ok, ?_, ?_, h4⟩
      · refine Ev.succ ?_
        simp only [impl_GainsOf.l0]
        rw [w64 (x := (n : Int) + 1) (by omega) (by omega)]
        exact Ev.pos (by omega) (Ev.neg (by omega) (Ev.pos (by omega) h2))
      · refine Ev.succ ?_
        simp only [spec_GainsOf.l0]
        rw [w64 (x := (n : Int) + 1) (by omega) (by omega)]
        exact Ev.pos (by omega) (Ev.neg (by omega) (Ev.pos (by omega) h3))
  by_cases q1 : (decide (0 ≤ p) && decide (p ≤ 100)) = true
  · by_cases q2 : (decide (0 ≤ f) && decide (f ≤ 100)) = true
    · rw [q1, q2] at a1
      by_cases q3 : (decide (0 ≤ s) && decide (s ≤ 10)) = true
      · by_cases q4 : (decide (0 ≤ c) && decide (c ≤ 10)) = true
        · rw [q3, q4] at a2
          obtain ⟨g, ok, h1, h2, h3⟩ := loop 6 1 [] rfl (by omega) rfl
          refine ⟨g, ok, Ev.bind a1 (Ev.pos rfl (Ev.bind a2 (Ev.succ ?_))), Ev.bind0 (spec_l1In_eq _ _ _) (Ev.pos q1 (Ev.bind0 (spec_l1In_eq _ _ _) (Ev.pos q2 (Ev.bind0 (spec_l1In_eq _ _ _) (Ev.pos q3 (Ev.bind0 (spec_l1In_eq _ _ _) (Ev.succ ?_))))))), h3⟩
          · simp only [impl_GainsOf.j0]; exact Ev.neg (by simp) h1
          · simp only [spec_GainsOf.j0]; exact Ev.neg (by rw [q4]; simp) h2
        · have q4 := Bool.eq_false_iff.mpr q4
          rw [q3, q4] at a2
          exact ⟨[], false, Ev.bind a1 (Ev.pos rfl (Ev.bind a2 (no1 _ rfl))), Ev.bind0 (spec_l1In_eq _ _ _) (Ev.pos q1 (Ev.bind0 (spec_l1In_eq _ _ _) (Ev.pos q2 (Ev.bind0 (spec_l1In_eq _ _ _) (Ev.pos q3 (Ev.bind0 (spec_l1In_eq _ _ _) (no2 _ (by rw [q4]; rfl)))))))), by simp⟩
      · have q3' := Bool.eq_false_iff.mpr q3
        rw [q3', Bool.false_and] at a2
        exact ⟨[], false, Ev.bind a1 (Ev.pos rfl (Ev.bind a2 (no1 _ rfl))), Ev.bind0 (spec_l1In_eq _ _ _) (Ev.pos q1 (Ev.bind0 (spec_l1In_eq _ _ _) (Ev.pos q2 (Ev.bind0 (spec_l1In_eq _ _ _) (Ev.neg q3 (no2 _ rfl)))))), by simp⟩
    · have q2' := Bool.eq_false_iff.mpr q2
      rw [q1, q2'] at a1
      exact ⟨[], false, Ev.bind a1 (Ev.neg (by simp) (no1 _ rfl)), Ev.bind0 (spec_l1In_eq _ _ _) (Ev.pos q1 (Ev.bind0 (spec_l1In_eq _ _ _) (Ev.neg q2 (no2 _ rfl)))), by simp⟩
  · have q1' := Bool.eq_false_iff.mpr q1
    rw [q1', Bool.false_and] at a1
    exact ⟨[], false, Ev.bind a1 (Ev.neg (by simp) (no1 _ rfl)), Ev.bind0 (spec_l1In_eq _ _ _) (Ev.neg q1 (no2 _ rfl)), by simp⟩

theorem cur_offer (l : List Int) (a s : Int) (hl : bytesOk l) (ha : 0 ≤ a ∧ a ≤ 4611686018427380000) :
    ∃ (g : List Int) (a' s' : Int), Ev (fun k => spec_l1Cur_offer.f k l a s) (g, a', s') ∧ g.length ≤ 100 ∧ a ≤ a' ∧ a' ≤ a + 100 := by
  have loop : ∀ (n : Nat) (x : List Int) (a s : Int), x.length + n ≤ 90 → (0 ≤ a ∧ a + 2 * n + 10 ≤ 4611686018427387000) →
      ∃ (r : List Int) (a' s' : Int), Ev (fun k => spec_l1Cur_offer.l0 k (n : Int) l a s x) (r, a', s') ∧ r.length ≤ 100 ∧ a ≤ a' ∧ a' ≤ a + 2 * n + 10 := by
    intro n
    induction n with
    | zero =>
      intro x a s hx ha
      obtain ⟨b, a1, s1, e1, q1, q2⟩ := cur_one l a s 40 hl (by omega)
      cases b with
      | true =>
        obtain ⟨m, a2, s2, e2, m1, m2, m3⟩ := cur_among l a1 s1 [1000, 1001, -1000, -1001] hl (by omega) (by simp)
        refine ⟨x ++ [m], a2, s2, Ev.succ ?_, by simp; omega, by omega, by omega⟩
        simp only [spec_l1Cur_offer.l0]
        exact Ev.neg (by omega) (Ev.bind0 e1 (Ev.pos rfl (Ev.bind0 e2 (Ev.pos (by omega) (Ev.now _)))))
      | false =>
        refine ⟨x, a1, s1, Ev.succ ?_, by omega, by omega, by omega⟩
        simp only [spec_l1Cur_offer.l0]
        exact Ev.neg (by omega) (Ev.bind0 e1 (Ev.neg (by simp) (Ev.now _)))
    | succ n ih =>
      intro x a s hx ha
      obtain ⟨p, a1, s1, e1, p0, p1, p2, p3⟩ := cur_pick l a s 31 hl (by omega)
      obtain ⟨r, a2, s2, hE, h1, h2, h3⟩ := ih (x ++ [wrap64 (p - 10)]) a1 s1 (by simp; omega) (by omega)
      refine ⟨r, a2, s2, Ev.succ ?_, h1, by omega, by omega⟩
      simp only [spec_l1Cur_offer.l0]
      rw [w64 (x := ((n + 1 : Nat) : Int) - 1) (by omega) (by omega), show ((n + 1 : Nat) : Int) - 1 = (n : Int) by omega]
      exact Ev.pos (by omega) (Ev.bind0 e1 (Ev.pos (by omega) hE))
  unfold spec_l1Cur_offer.f
  obtain ⟨b, a1, s1, e1, q1, q2⟩ := cur_one l a s 3 hl (by omega)
  cases b with
  | true =>
    obtain ⟨p, a2, s2, e2, p0, p1, p2, p3⟩ := cur_pick l a1 s1 20 hl (by omega)
    obtain ⟨f, a3, s3, e3, f0, f1, f2, f3⟩ := cur_pick l a2 s2 20 hl (by omega)
    obtain ⟨q, a4, s4, e4, c0, c1, c2, c3⟩ := cur_pick l a3 s3 4 hl (by omega)
    obtain ⟨r, a5, s5, e5, r0, r1, r2, r3⟩ := cur_pick l a4 s4 4 hl (by omega)
    obtain ⟨g, ok, _, hS, hg⟩ := GainsOf_ev p (wrap64 (1 + f)) (wrap64 (1 + q)) (wrap64 (1 + r))
    exact ⟨g, a5, s5, Ev.bind0 e1 (Ev.pos rfl (Ev.bind0 e2 (Ev.bind0 e3 (Ev.bind0 e4 (Ev.bind0 e5 (Ev.bind hS (Ev.now _))))))), by omega, by omega, by omega⟩
  | false =>
    obtain ⟨n, a2, s2, e2, n0, n1, n2, n3⟩ := cur_pick l a1 s1 5 hl (by omega)
    obtain ⟨n', rfl⟩ := exists_nat_of_nonneg n0
    obtain ⟨r, a3, s3, hE, h1, h2, h3⟩ := loop n' [] a2 s2 (by simp; omega) (by omega)
    exact ⟨r, a3, s3, Ev.bind0 e1 (Ev.neg (by simp) (Ev.bind0 e2 hE)), h1, by omega, by omega⟩
theorem cur_offers (l : List Int) (a s : Int) (hl : bytesOk l) (ha : 0 ≤ a ∧ a ≤ 4611686018427300000) :
    ∃ (r : List S53) (a' s' : Int), Ev (fun k => spec_l1Cur_offers.f k l a s) (r, a', s') ∧ r.length ≤ 100 ∧ (∀ o ∈ r, o.f0.length ≤ 100) ∧ a ≤ a' ∧ a' ≤ a + 10000 := by
  have loop : ∀ (n : Nat) (x : List S53) (a s : Int), x.length + n ≤ 100 → (∀ o ∈ x, o.f0.length ≤ 100) → (0 ≤ a ∧ a + 100 * n + 10 ≤ 4611686018427380000) →
      ∃ (r : List S53) (a' s' : Int), Ev (fun k => spec_l1Cur_offers.l0 k x (n : Int) l a s) (r, a', s') ∧ r.length ≤ 100 ∧ (∀ o ∈ r, o.f0.length ≤ 100) ∧ a ≤ a' ∧ a' ≤ a + 100 * n := by
    intro n
    induction n with
    | zero =>
      intro x a s hx hg ha
      refine ⟨x, a, s, Ev.succ ?_, by omega, hg, by omega, by omega⟩
      simp only [spec_l1Cur_offers.l0]
      exact Ev.neg (by omega) (Ev.now _)
    | succ n ih =>
      intro x a s hx hg ha
      obtain ⟨g, a1, s1, e1, g1, g2, g3⟩ := cur_offer l a s hl (by omega)
      obtain ⟨r, a2, s2, hE, h1, h2, h3, h4⟩ := ih (x ++ [⟨g⟩]) a1 s1 (by simp; omega) (fun o ho => by
        rcases List.mem_append.mp ho with h | h
        · exact hg o h
        · rw [List.mem_singleton] at h; subst h; exact g1) (by omega)
      refine ⟨r, a2, s2, Ev.succ ?_, h1, h2, by omega, by omega⟩
      simp only [spec_l1Cur_offers.l0]
      rw [w64 (x := ((n + 1 : Nat) : Int) - 1) (by omega) (by omega), show ((n + 1 : Nat) : Int) - 1 = (n : Int) by omega]
      exact Ev.pos (by omega) (Ev.bind e1 (Ev.pos (by omega) hE))
  unfold spec_l1Cur_offers.f
  obtain ⟨n, a1, s1, e1, n0, n1, n2, n3⟩ := cur_pick l a s 5 hl (by omega)
  obtain ⟨b, a2, s2, e2, b1, b2⟩ := cur_one l a1 s1 20 hl (by omega)
  cases b with
  | true =>
    obtain ⟨p, a3, s3, e3, p0, p1, p2, p3⟩ := cur_pick l a2 s2 2 hl (by omega)
    obtain ⟨n', hn'⟩ := exists_nat_of_nonneg (show 0 ≤ 12 + p by omega)
    obtain ⟨r, a4, s4, hE, h1, h2, h3, h4⟩ := loop n' [] a3 s3 (by simp; omega) (by simp) (by omega)
    refine ⟨r, a4, s4, Ev.bind0 e1 (Ev.bind0 e2 (Ev.pos rfl (Ev.bind0 e3 (Ev.succ ?_)))), h1, h2, by omega, by omega⟩
    simp only [spec_l1Cur_offers.j0]
    rw [w64 (by omega) (by omega), hn']; exact hE
  | false =>
    obtain ⟨n', rfl⟩ := exists_nat_of_nonneg n0
    obtain ⟨r, a4, s4, hE, h1, h2, h3, h4⟩ := loop n' [] a2 s2 (by simp; omega) (by simp) (by omega)
    refine ⟨r, a4, s4, Ev.bind0 e1 (Ev.bind0 e2 (Ev.neg (by simp) (Ev.succ ?_))), h1, h2, by omega, by omega⟩
    simp only [spec_l1Cur_offers.j0]; exact hE

theorem cur_few (l : List Int) (a s : Int) (hl : bytesOk l) (ha : 0 ≤ a ∧ a ≤ 4611686018427300000) : ∃ (r a' s' : Int), spec_l1Cur_fewPlaces.f l a s = some (r, a', s') ∧ a ≤ a' ∧ a' ≤ a + 10 := by
  unfold spec_l1Cur_fewPlaces.f
  obtain ⟨b, a1, s1, e1, b1, b2⟩ := cur_one l a s 12 hl (by omega)
  rw [e1]
  cases b with
  | true =>
    obtain ⟨m, a2, s2, e2, m1, m2, m3⟩ := cur_among l a1 s1 [-1, 40, 41] hl (by omega) (by simp)
    exact ⟨m, a2, s2, by simp only [Option.bind_some, if_true, e2], by omega, by omega⟩
  | false =>
    obtain ⟨m, a2, s2, e2, m0, m1, m2, m3⟩ := cur_pick l a1 s1 9 hl (by omega)
    exact ⟨m, a2, s2, by simp only [Option.bind_some, Bool.false_eq_true, if_false, e2], by omega, by omega⟩

theorem spec_DrawBestTable_ev (l : List Int) (hl : bytesOk l) : ∃ (r : List S53) (p : Int), Ev (fun k => spec_DrawBestTable.f k l) (r, p) ∧ r.length ≤ 100 ∧ (∀ o ∈ r, o.f0.length ≤ 100) := by
  unfold spec_DrawBestTable.f
  obtain ⟨r, a1, s1, e1, h1, h2, h3, h4⟩ := cur_offers l 0 0 hl (by omega)
  obtain ⟨p, a2, s2, e2, _⟩ := cur_few l a1 s1 hl (by omega)
  exact ⟨r, p, Ev.bind e1 (Ev.bind0 e2 (Ev.now _)), h1, h2⟩

theorem sumN_front (f : Nat → Int) : ∀ n, sumN f (n + 1) = f 0 + sumN (fun i => f (i + 1)) n
  | 0 => by simp [sumN]
  | n + 1 => by
    have ih := sumN_front f n
    rw [show sumN f (n + 1 + 1) = sumN f (n + 1) + f (n + 1) from rfl, ih]
    rw [show sumN (fun i => f (i + 1)) (n + 1) = sumN (fun i => f (i + 1)) n + f (n + 1) from rfl]
    omega
theorem plN_front (f : Nat → Nat) : ∀ n, plN f (n + 1) = f 0 + plN (fun i => f (i + 1)) n
  | 0 => by simp [plN]
  | n + 1 => by
    have ih := plN_front f n
    rw [show plN f (n + 1 + 1) = plN f (n + 1) + f (n + 1) from rfl, ih]
    rw [show plN (fun i => f (i + 1)) (n + 1) = plN (fun i => f (i + 1)) n + f (n + 1) from rfl]
    omega
theorem sumN_rev (f : Nat → Int) : ∀ n, sumN (fun i => f (n - 1 - i)) n = sumN f n
  | 0 => rfl
  | n + 1 => by
    rw [sumN_front]
    rw [show sumN f (n + 1) = sumN f n + f n from rfl, ← sumN_rev f n]
    have h : sumN (fun i => f (n + 1 - 1 - (i + 1))) n = sumN (fun i => f (n - 1 - i)) n := sumN_congr fun i hi => by rw [show n + 1 - 1 - (i + 1) = n - 1 - i by omega]
    rw [h, show n + 1 - 1 - 0 = n by omega]
    omega
theorem plN_rev (f : Nat → Nat) : ∀ n, plN (fun i => f (n - 1 - i)) n = plN f n
  | 0 => rfl
  | n + 1 => by
    rw [plN_front]
    rw [show plN f (n + 1) = plN f n + f n from rfl, ← plN_rev f n]
    have h : plN (fun i => f (n + 1 - 1 - (i + 1))) n = plN (fun i => f (n - 1 - i)) n := plN_congr fun i hi => by rw [show n + 1 - 1 - (i + 1) = n - 1 - i by omega]
    rw [h, show n + 1 - 1 - 0 = n by omega]
    omega
theorem sumN_drop (f : Nat → Int) (k : Nat) : ∀ n, k ≤ n → sumN f (n + 1) = sumN (fun i => if i < k then f i else f (i + 1)) n + f k
  | 0, h => by
    obtain rfl : k = 0 := by omega
    simp [sumN]
  | n + 1, h => by
    rw [show sumN f (n + 1 + 1) = sumN f (n + 1) + f (n + 1) from rfl]
    rcases Nat.lt_or_ge n k with hk | hk
    · obtain rfl : k = n + 1 := by omega
      rw [sumN_congr (f := fun i => if i < n + 1 then f i else f (i + 1)) (g := f) (fun i hi => by rw [if_pos (by omega)])]
    · rw [sumN_drop f k n hk]
      rw [show sumN (fun i => if i < k then f i else f (i + 1)) (n + 1) = sumN (fun i => if i < k then f i else f (i + 1)) n + (if n < k then f n else f (n + 1)) from rfl, if_neg (by omega)]
      omega
theorem plN_drop (f : Nat → Nat) (k : Nat) : ∀ n, k ≤ n → plN f (n + 1) = plN (fun i => if i < k then f i else f (i + 1)) n + f k
  | 0, h => by
    obtain rfl : k = 0 := by omega
    simp [plN]
  | n + 1, h => by
    rw [show plN f (n + 1 + 1) = plN f (n + 1) + f (n + 1) from rfl]
    rcases Nat.lt_or_ge n k with hk | hk
    · obtain rfl : k = n + 1 := by omega
      rw [plN_congr (d := fun i => if i < n + 1 then f i else f (i + 1)) (e := f) (fun i hi => by rw [if_pos (by omega)])]
    · rw [plN_drop f k n hk]
      rw [show plN (fun i => if i < k then f i else f (i + 1)) (n + 1) = plN (fun i => if i < k then f i else f (i + 1)) n + (if n < k then f n else f (n + 1)) from rfl, if_neg (by omega)]
      omega
theorem plN_ge (f : Nat → Nat) (k : Nat) : ∀ n, k < n → f k ≤ plN f n
  | 0, h => by omega
  | n + 1, h => by
    simp only [plN]
    rcases Nat.lt_or_ge k n with hk | hk
    · have := plN_ge f k n hk; omega
    · obtain rfl : k = n := by omega
      omega
theorem rowAt_att (gs : List (List Int)) (P : Nat) : ∀ n p, p ≤ P → ∃ d, Counts gs n d ∧ plN d n ≤ p ∧ valN gs d n = rd (rowAt gs P n) (p : Int)
  | 0, p, hp => ⟨fun _ => 0, ⟨fun i hi => by omega⟩, Nat.zero_le _, by simp only [valN, sumN, rowAt]; rw [rd_nat _ p (by simp; omega)]; simp⟩
  | n + 1, p, hp => by
    obtain ⟨c, ⟨h1, h2⟩, h3⟩ := exists_pick gs P n p hp
    obtain ⟨d, hd1, hd2, hd3⟩ := rowAt_att gs P n (p - c) (by omega)
    refine ⟨fun j => if j = n then c else d j, ⟨fun i hi => ?_⟩, ?_, ?_⟩
    · by_cases e : i = n
      · subst e; rw [if_pos rfl]; exact h2
      · rw [if_neg e]; exact hd1.le i (by omega)
    · simp only [plN]
      rw [plN_congr (d := fun j => if j = n then c else d j) (e := d) (fun i hi => by rw [if_neg (by omega)]), if_pos trivial]
      omega
    · rw [show valN gs (fun j => if j = n then c else d j) (n + 1) = valN gs (fun j => if j = n then c else d j) n + gainN (gs.getD n []) (if n = n then c else d n) from rfl, if_pos rfl]
      rw [show valN gs (fun j => if j = n then c else d j) n = valN gs d n from sumN_congr fun i hi => by dsimp only; rw [if_neg (by omega)]]
      rw [hd3, h3]
theorem rowAt_up (gs : List (List Int)) (P n p q : Nat) (h : p ≤ q) (hq : q ≤ P) : rd (rowAt gs P n) (p : Int) ≤ rd (rowAt gs P n) (q : Int) := by
  obtain ⟨d, h1, h2, h3⟩ := rowAt_att gs P n p (by omega)
  rw [← h3]
  exact rowAt_most gs P d n q h1 (by omega) hq
theorem gainN_zero (g : List Int) : gainN g 0 = 0 := by simp [gainN]
theorem rowAt_none (gs : List (List Int)) (P n : Nat) : rd (rowAt gs P n) 0 = 0 := by
  obtain ⟨d, h1, h2, h3⟩ := rowAt_att gs P n 0 (Nat.zero_le _)
  rw [show ((0 : Nat) : Int) = 0 from rfl] at h3
  rw [← h3]
  have z : ∀ m, plN d m ≤ 0 → valN gs d m = 0 := by
    intro m
    induction m with
    | zero => intro _; rfl
    | succ m ih =>
      intro h
      simp only [plN] at h
      rw [show valN gs d (m + 1) = valN gs d m + gainN (gs.getD m []) (d m) from rfl, ih (by omega), show d m = 0 by omega, gainN_zero]
      rfl
  exact z n h2
theorem rev_get (gs : List (List Int)) (i : Nat) (h : i < gs.length) : gs.reverse.getD i [] = gs.getD (gs.length - 1 - i) [] := by
  rw [List.getD_eq_getElem?_getD, List.getD_eq_getElem?_getD, List.getElem?_reverse h]
theorem rowAt_rev_le (gs : List (List Int)) (P p : Nat) (hp : p ≤ P) : rd (rowAt gs.reverse P gs.length) (p : Int) ≤ rd (rowAt gs P gs.length) (p : Int) := by
  obtain ⟨d, h1, h2, h3⟩ := rowAt_att gs.reverse P gs.length p hp
  rw [← h3]
  have e : valN gs.reverse d gs.length = valN gs (fun i => d (gs.length - 1 - i)) gs.length := by
    unfold valN
    rw [← sumN_rev (fun i => gainN (gs.getD i []) (d (gs.length - 1 - i))) gs.length]
    exact sumN_congr fun i hi => by
      rw [rev_get gs i hi, show gs.length - 1 - (gs.length - 1 - i) = i by omega]
  rw [e]
  refine rowAt_most gs P _ gs.length p ⟨fun i hi => ?_⟩ (by rw [plN_rev]; exact h2) hp
  have := h1.le (gs.length - 1 - i) (by omega)
  rw [rev_get gs _ (by omega), show gs.length - 1 - (gs.length - 1 - i) = i by omega] at this
  exact this
theorem rowAt_rev (gs : List (List Int)) (P : Nat) : rowAt gs.reverse P gs.length = rowAt gs P gs.length := by
  apply List.ext_getElem (by rw [rowAt_len, rowAt_len])
  intro p h1 h2
  have hp : p ≤ P := by rw [rowAt_len] at h2; omega
  have a := rowAt_rev_le gs P p hp
  have b := rowAt_rev_le gs.reverse P p hp
  rw [List.reverse_reverse, List.length_reverse] at b
  rw [rd_nat _ p h1, rd_nat _ p h2] at a b
  omega
theorem out_get (gs : List (List Int)) (k i : Nat) (hk : k < gs.length) : (gs.take k ++ gs.drop (k + 1)).getD i [] = if i < k then gs.getD i [] else gs.getD (i + 1) [] := by
  rw [List.getD_eq_getElem?_getD]
  by_cases c : i < k
  · rw [if_pos c, List.getElem?_append_left (by simp; omega), List.getElem?_take, if_pos c, List.getD_eq_getElem?_getD]
  · rw [if_neg c, List.getElem?_append_right (by simp; omega), List.getElem?_drop, List.getD_eq_getElem?_getD]
    congr 2
    simp; omega
theorem drop_ge (gs : List (List Int)) (P k : Nat) (hk : k < gs.length) : rd (rowAt (gs.take k ++ gs.drop (k + 1)) P (gs.length - 1)) (P : Int) ≤ rd (rowAt gs P gs.length) (P : Int) := by
  obtain ⟨m, hm⟩ : ∃ m, gs.length = m + 1 := ⟨gs.length - 1, by omega⟩
  obtain ⟨d, h1, h2, h3⟩ := rowAt_att (gs.take k ++ gs.drop (k + 1)) P (gs.length - 1) P (Nat.le_refl _)
  rw [← h3, hm]
  rw [hm, Nat.add_sub_cancel] at h1 h2
  rw [Nat.add_sub_cancel]
  have hin : ∀ i, (fun i => if i < k then (fun j => if j < k then d j else if j = k then 0 else d (j - 1)) i else (fun j => if j < k then d j else if j = k then 0 else d (j - 1)) (i + 1)) i = d i := fun i => by
    dsimp only
    by_cases c : i < k
    · rw [if_pos c, if_pos c]
    · rw [if_neg c, if_neg (by omega), if_neg (by omega), Nat.add_sub_cancel]
  have hp : plN (fun j => if j < k then d j else if j = k then 0 else d (j - 1)) (m + 1) = plN d m := by
    rw [plN_drop _ k m (by omega)]
    rw [plN_congr (e := d) (fun i _ => hin i), if_neg (by omega), if_pos rfl]
    omega
  have hv : valN gs (fun j => if j < k then d j else if j = k then 0 else d (j - 1)) (m + 1) = valN (gs.take k ++ gs.drop (k + 1)) d m := by
    unfold valN
    rw [sumN_drop _ k m (by omega)]
    dsimp only
    rw [if_neg (Nat.lt_irrefl k), if_pos rfl, gainN_zero, Int.add_zero]
    refine sumN_congr fun i hi => ?_
    rw [out_get gs k i hk]
    have h4 := hin i
    dsimp only at h4
    by_cases c : i < k
    · rw [if_pos c, if_pos c, if_pos c]
    · rw [if_neg c] at h4
      rw [if_neg c, if_neg c, h4]
  rw [← hv]
  refine rowAt_most gs P _ (m + 1) P ⟨fun i hi => ?_⟩ (by rw [hp]; exact h2) (Nat.le_refl _)
  by_cases c : i < k
  · have := h1.le i (by omega)
    rw [out_get gs k i hk, if_pos c] at this
    rw [if_pos c]; exact this
  · by_cases c2 : i = k
    · rw [if_neg c, if_pos c2]; exact Nat.zero_le _
    · have := h1.le (i - 1) (by omega)
      rw [out_get gs k (i - 1) hk, if_neg (by omega), show i - 1 + 1 = i by omega] at this
      rw [if_neg c, if_neg c2]; exact this
theorem drop_le (gs : List (List Int)) (P k : Nat) (hk : k < gs.length) : rd (rowAt gs P gs.length) (P : Int) ≤ rd (rowAt (gs.take k ++ gs.drop (k + 1)) P (gs.length - 1)) (P : Int) + rd (rowAt [gs.getD k []] P 1) (P : Int) := by
  obtain ⟨m, hm⟩ : ∃ m, gs.length = m + 1 := ⟨gs.length - 1, by omega⟩
  obtain ⟨d, h1, h2, h3⟩ := rowAt_att gs P gs.length P (Nat.le_refl _)
  rw [← h3]
  have hd := plN_ge d k gs.length hk
  have hv : valN gs d gs.length = valN (gs.take k ++ gs.drop (k + 1)) (fun i => if i < k then d i else d (i + 1)) (gs.length - 1) + gainN (gs.getD k []) (d k) := by
    unfold valN
    rw [hm, Nat.add_sub_cancel, sumN_drop _ k m (by omega)]
    congr 1
    refine sumN_congr fun i hi => ?_
    rw [out_get gs k i hk]
    dsimp only
    by_cases c : i < k
    · rw [if_pos c, if_pos c, if_pos c]
    · rw [if_neg c, if_neg c, if_neg c]
  have hp : plN d gs.length = plN (fun i => if i < k then d i else d (i + 1)) (gs.length - 1) + d k := by
    rw [hm, Nat.add_sub_cancel]; exact plN_drop d k m (by omega)
  have a := rowAt_most (gs.take k ++ gs.drop (k + 1)) P (fun i => if i < k then d i else d (i + 1)) (gs.length - 1) P ⟨fun i hi => by
    rw [out_get gs k i hk]
    by_cases c : i < k
    · rw [if_pos c, if_pos c]; exact h1.le i (by omega)
    · rw [if_neg c, if_neg c]; exact h1.le (i + 1) (by omega)⟩ (by omega) (Nat.le_refl _)
  have b := rowAt_most [gs.getD k []] P (fun _ => d k) 1 P ⟨fun i hi => by
    obtain rfl : i = 0 := by omega
    exact h1.le k hk⟩ (by simp only [plN]; omega) (Nat.le_refl _)
  rw [show valN [gs.getD k []] (fun _ => d k) 1 = 0 + gainN (gs.getD k []) (d k) from rfl] at b
  omega

def tableF (l : List S53) (p : Int) : List Int × Bool := if offered l p = true then (rowAt (gl l) p.toNat l.length, true) else ([], false)
theorem offered_iff {l : List S53} {p : Int} (h : offered l p = true) : offersOk l = true ∧ ∃ P : Nat, p = (P : Int) ∧ P ≤ 40 := by
  simp only [offered, Bool.and_eq_true, decide_eq_true_eq] at h
  obtain ⟨P, rfl⟩ := exists_nat_of_nonneg h.2.1
  exact ⟨h.1, P, rfl, by omega⟩

theorem impl_BestTable_ev (l : List S53) (p : Int) (h : l.length ≤ 1048576) (hg : ∀ o ∈ l, o.f0.length ≤ 1048576) : Ev (fun k => impl_BestTable.f k l p) (tableF l p) := by
  unfold impl_BestTable.f tableF
  refine Ev.bind (impl_isOffered_ev l p h hg) (Ev.ite (fun hk => ?_) (fun hk => by rw [if_neg hk]; exact Ev.now _))
  rw [if_pos hk]
  obtain ⟨ho, P, rfl, hP⟩ := offered_iff hk
  refine Ev.bind (impl_tables_ev l P hP ho) (Ev.pos (by omega) (Ev.pos (by rw [tabs_len]; omega) ?_))
  rw [tabs_rd _ _ _ _ (by omega), toNat_nat]; exact Ev.now _

theorem spec_BestTable_ev (l : List S53) (p : Int) (h : l.length ≤ 1048576) (hg : ∀ o ∈ l, o.f0.length ≤ 1048576) : Ev (fun k => spec_BestTable.f k l p) (tableF l p) := by
  unfold spec_BestTable.f tableF
  have pl : spec_l6Places.f p = some (decide (0 ≤ p) && decide (p ≤ 40)) := by unfold spec_l6Places.f; rw [spec_l1In_eq]; rfl
  refine Ev.bind (spec_GoodOffers_ev l h hg) (Ev.ite (fun hk => Ev.bind0 pl (Ev.ite (fun h2 => ?_) (fun h2 => ?_))) (fun hk => ?_))
  · have hof : offered l p = true := by unfold offered; rw [hk, h2]; rfl
    rw [if_pos hof]
    obtain ⟨ho, P, rfl, hP⟩ := offered_iff hof
    refine Ev.bind (spec_l6Rows_ev l P hP ho) (Ev.pos (by omega) (Ev.pos (by rw [tabs_len]; omega) ?_))
    rw [tabs_rd _ _ _ _ (by omega), toNat_nat]; exact Ev.now _
  · rw [if_neg (by unfold offered; rw [hk, Bool.true_and]; exact h2)]; exact Ev.now _
  · rw [if_neg (by unfold offered; rw [Bool.eq_false_iff.mpr hk]; simp)]; exact Ev.now _

def outOf (l : List S53) (k : Nat) : List S53 := l.take k ++ l.drop (k + 1)
theorem gl_out (l : List S53) (k : Nat) : gl (outOf l k) = (gl l).take k ++ (gl l).drop (k + 1) := by simp [gl, outOf, List.map_take, List.map_drop]
theorem out_len (l : List S53) (k : Nat) (h : k < l.length) : (outOf l k).length = l.length - 1 := by simp [outOf]; omega
theorem out_ok (l : List S53) (k : Nat) (h : k < l.length) (hok : offersOk l = true) : offersOk (outOf l k) = true := by
  unfold offersOk at hok ⊢
  simp only [Bool.and_eq_true, decide_eq_true_eq, List.all_eq_true] at hok ⊢
  refine ⟨by rw [out_len l k h]; omega, fun x hx => hok.2 x ?_⟩
  unfold outOf at hx
  rcases List.mem_append.mp hx with hx | hx
  · exact List.mem_of_mem_take hx
  · exact List.mem_of_mem_drop hx
def dropOk (l : List S53) (k p : Int) : Bool := offered l p && (decide (0 ≤ k) && decide (k < (l.length : Int)))
def dropF (l : List S53) (k p : Int) : Int × Bool := if dropOk l k p = true then (rd (rowAt (gl l) p.toNat l.length) p - rd (rowAt (gl (outOf l k.toNat)) p.toNat (l.length - 1)) p, true) else (0, false)

theorem impl_DropOffer_ev (l : List S53) (k p : Int) (h : l.length ≤ 1048576) (hg : ∀ o ∈ l, o.f0.length ≤ 1048576) : Ev (fun m => impl_DropOffer.f m l k p) (dropF l k p) := by
  unfold impl_DropOffer.f
  refine Ev.bind (impl_isOffered_ev l p h hg) (Ev.ite (fun hk => ?_) (fun hk => ?_))
  · rw [w64 (by omega) (by omega)]
    refine Ev.bind0 (impl_within_eq k 0 ((l.length : Int) - 1)) (Ev.succ ?_)
    simp only [impl_DropOffer.j0]
    by_cases hw : 0 ≤ k ∧ k < (l.length : Int)
    · obtain ⟨h0, h1⟩ := hw
      obtain ⟨i, rfl⟩ := exists_nat_of_nonneg h0
      have hi : i < l.length := by omega
      obtain ⟨ho, P, rfl, hP⟩ := offered_iff hk
      obtain ⟨h12, _⟩ := (offersOk_iff l).mp ho
      rw [decide_eq_true h0, decide_eq_true (show (i : Int) ≤ (l.length : Int) - 1 by omega)]
      refine Ev.neg (by simp) (Ev.bind0 (a := l) ?_ (Ev.bind0 (a := outOf l i) ?_ ?_))
      · unfold impl_Offer_146.f
        simp; omega
      · unfold impl_Offer_145.f
        rw [w64 (by omega) (by omega), if_pos (by omega), if_pos (by omega), if_pos (by omega), toNat_nat, show ((i : Int) + 1).toNat = i + 1 by omega]; rfl
      · refine Ev.bind (impl_tables_ev l P hP ho) (Ev.pos (by omega) (Ev.pos (by rw [tabs_len]; omega) ?_))
        rw [tabs_rd _ _ _ _ (by omega)]
        refine Ev.pos (by omega) (Ev.pos (by rw [rowAt_len]; omega) (Ev.bind (impl_tables_ev (outOf l i) P hP (out_ok l i hi ho)) (Ev.pos (by omega) (Ev.pos (by rw [tabs_len]; omega) ?_))))
        rw [tabs_rd _ _ _ _ (by omega), out_len l i hi]
        refine Ev.pos (by rw [rowAt_len]; omega) (Ev.to (Ev.now _) ?_)
        have b1 := rowAt_bound (gs := gl l) ((offersOk_iff l).mp ho).2 P l.length (by rw [gl_len]; omega) P (Nat.le_refl _)
        have b2 := rowAt_bound (gs := gl (outOf l i)) ((offersOk_iff _).mp (out_ok l i hi ho)).2 P (l.length - 1) (by rw [gl_len, out_len l i hi]; omega) P (Nat.le_refl _)
        unfold dropF dropOk
        rw [hk, decide_eq_true h0, decide_eq_true h1, if_pos (by rfl), toNat_nat, toNat_nat, w64 (by omega) (by omega)]
    · refine Ev.pos ?_ (Ev.to (Ev.now _) ?_)
      · simp only [Bool.not_eq_true', Bool.and_eq_false_iff, decide_eq_false_iff_not]; omega
      · unfold dropF dropOk
        rw [if_neg (by simp only [Bool.and_eq_true, decide_eq_true_eq]; omega)]
  · refine Ev.succ ?_
    simp only [impl_DropOffer.j0]
    refine Ev.pos (by first | rfl | trivial) (Ev.to (Ev.now _) ?_)
    unfold dropF dropOk
    rw [Bool.eq_false_iff.mpr hk, if_neg (by simp)]

theorem spec_DropOffer_ev (l : List S53) (k p : Int) (h : l.length ≤ 1048576) (hg : ∀ o ∈ l, o.f0.length ≤ 1048576) : Ev (fun m => spec_DropOffer.f m l k p) (dropF l k p) := by
  unfold spec_DropOffer.f
  have pl : spec_l6Places.f p = some (decide (0 ≤ p) && decide (p ≤ 40)) := by unfold spec_l6Places.f; rw [spec_l1In_eq]; rfl
  have no : ∀ x : Bool, x = true → dropOk l k p = false → Ev (fun m => spec_DropOffer.j0 m l k p x) (dropF l k p) := fun x hx hd => by
    refine Ev.succ ?_; simp only [spec_DropOffer.j0]; refine Ev.pos hx (Ev.to (Ev.now _) ?_)
    unfold dropF; rw [hd]; rfl
  refine Ev.bind (spec_GoodOffers_ev l h hg) (Ev.ite (fun hk => Ev.bind0 pl (Ev.ite (fun h2 => ?_) (fun h2 => ?_))) (fun hk => ?_))
  · have hof : offered l p = true := by unfold offered; rw [hk, h2]; rfl
    refine Ev.ite (fun hn => no _ rfl ?_) (fun hn => ?_)
    · unfold dropOk; rw [decide_eq_false (show ¬ 0 ≤ k by omega)]; simp
    · by_cases h1 : k < (l.length : Int)
      · obtain ⟨i, rfl⟩ := exists_nat_of_nonneg (show 0 ≤ k by omega)
        have hi : i < l.length := by omega
        obtain ⟨ho, P, rfl, hP⟩ := offered_iff hof
        obtain ⟨h12, _⟩ := (offersOk_iff l).mp ho
        refine Ev.succ ?_
        simp only [spec_DropOffer.j0]
        rw [decide_eq_false (show ¬ ((i : Int) ≥ (l.length : Int)) by omega)]
        rw [w64 (x := (i : Int) + 1) (by omega) (by omega), toNat_nat, show ((i : Int) + 1).toNat = i + 1 by omega]
        refine Ev.neg (by simp) (Ev.bind0 (a := []) rfl (Ev.pos (by omega) (Ev.pos (by omega) (Ev.bind0 (a := l.take i) rfl (Ev.pos (by simp; omega) (Ev.bind0 (a := l.take i) rfl (Ev.pos (by omega) (Ev.pos (by omega) (Ev.bind0 (a := l.drop (i + 1)) rfl (Ev.pos (by simp; omega) (Ev.bind0 (a := outOf l i) rfl ?_)))))))))))
        refine Ev.bind (spec_l6Rows_ev l P hP ho) (Ev.pos (by omega) (Ev.pos (by rw [tabs_len]; omega) ?_))
        rw [tabs_rd _ _ _ _ (by omega)]
        refine Ev.pos (by omega) (Ev.pos (by rw [rowAt_len]; omega) (Ev.bind (spec_l6Rows_ev (outOf l i) P hP (out_ok l i hi ho)) (Ev.pos (by omega) (Ev.pos (by rw [tabs_len]; omega) ?_))))
        rw [tabs_rd _ _ _ _ (by omega), out_len l i hi]
        refine Ev.pos (by rw [rowAt_len]; omega) (Ev.to (Ev.now _) ?_)
        have b1 := rowAt_bound (gs := gl l) ((offersOk_iff l).mp ho).2 P l.length (by rw [gl_len]; omega) P (Nat.le_refl _)
        have b2 := rowAt_bound (gs := gl (outOf l i)) ((offersOk_iff _).mp (out_ok l i hi ho)).2 P (l.length - 1) (by rw [gl_len, out_len l i hi]; omega) P (Nat.le_refl _)
        unfold dropF dropOk
        rw [hof, decide_eq_true (show (0 : Int) ≤ (i : Int) by omega), decide_eq_true h1, if_pos (by rfl), toNat_nat, toNat_nat, w64 (by omega) (by omega)]
      · refine no _ (decide_eq_true (by omega)) ?_
        unfold dropOk; rw [decide_eq_false h1]; simp
  · refine no _ rfl ?_
    unfold dropOk offered; rw [hk, Bool.true_and, Bool.eq_false_iff.mpr h2]; rfl
  · refine no _ rfl ?_
    unfold dropOk offered; rw [Bool.eq_false_iff.mpr hk]; rfl

theorem spec_DrawDropOffer_ev (l : List Int) (hl : bytesOk l) : ∃ (r : List S53) (k p : Int), Ev (fun m => spec_DrawDropOffer.f m l) (r, k, p) ∧ r.length ≤ 100 ∧ (∀ o ∈ r, o.f0.length ≤ 100) := by
  unfold spec_DrawDropOffer.f
  obtain ⟨r, a1, s1, e1, h1, h2, h3, h4⟩ := cur_offers l 0 0 hl (by omega)
  obtain ⟨q, a2, s2, e2, h5⟩ := cur_pick l a1 s1 (wrap64 ((r.length : Int) + 2)) hl (by omega)
  obtain ⟨p, a3, s3, e3, _⟩ := cur_few l a2 s2 hl (by omega)
  exact ⟨r, _, p, Ev.bind e1 (Ev.bind0 e2 (Ev.bind0 e3 (Ev.now _))), h1, h2⟩

theorem tables_rest (l : List Int) (hl : bytesOk l) : Ev (fun k => laws_FnTables.j4 k l) true := by
  obtain ⟨r, k, p, e1, h1, h2⟩ := spec_DrawDropOffer_ev l hl
  have hr : ∀ o ∈ r, o.f0.length ≤ 1048576 := fun o ho => by have := h2 o ho; omega
  refine Ev.succ ?_
  simp only [laws_FnTables.j4]
  refine Ev.bind e1 (Ev.bind (impl_DropOffer_ev r k p (by omega) hr) (Ev.bind (spec_DropOffer_ev r k p (by omega) hr) (Ev.neg (by simp) (Ev.succ ?_))))
  simp only [laws_FnTables.j5, bne_self_eq_false, Bool.false_eq_true, if_false]
  by_cases hd : dropOk r k p = true
  · have hd' := hd
    simp only [dropOk, Bool.and_eq_true, decide_eq_true_eq] at hd'
    obtain ⟨hof, h0, hk⟩ := hd'
    obtain ⟨i, rfl⟩ := exists_nat_of_nonneg h0
    have hi : i < r.length := by omega
    obtain ⟨ho, P, rfl, hP⟩ := offered_iff hof
    have e : dropF r (i : Int) (P : Int) = (rd (rowAt (gl r) P r.length) (P : Int) - rd (rowAt (gl (outOf r i)) P (r.length - 1)) (P : Int), true) := by
      unfold dropF; rw [hd, if_pos rfl, toNat_nat, toNat_nat]
    rw [e]
    dsimp only
    rw [w64 (x := (i : Int) + 1) (by omega) (by omega), toNat_nat, show ((i : Int) + 1).toNat = i + 1 by omega]
    have hone : (r.take (i + 1)).drop i = [r[i]] := by
      rw [List.drop_take, List.drop_eq_getElem_cons hi, show i + 1 - i = 1 by omega]; rfl
    rw [hone]
    obtain ⟨cs, n, ok, hI, _, rfl, _, hx⟩ := BestChoice_ev [r[i]] (P : Int) (by simp) (fun o ho => by
      rw [List.mem_singleton] at ho; subst ho; exact hr _ (List.getElem_mem hi))
    have ok1 : offered [r[i]] (P : Int) = true := by
      unfold offersOk at ho
      simp only [Bool.and_eq_true, decide_eq_true_eq, List.all_eq_true] at ho
      unfold offered offersOk
      simp only [Bool.and_eq_true, decide_eq_true_eq, List.all_eq_true]
      exact ⟨⟨by simp, fun x hx => by rw [List.mem_singleton] at hx; subst hx; exact ho.2 _ (List.getElem_mem hi)⟩, by omega, by omega⟩
    obtain ⟨P', hPP, _, hn, _⟩ := hx ok1
    obtain rfl : P' = P := by omega
    refine Ev.pos (by first | rfl | trivial) (Ev.pos (by omega) (Ev.pos (by omega) (Ev.pos (by omega) (Ev.bind hI (Ev.pos ok1 ?_)))))
    have a := drop_ge (gl r) P' i (by rw [gl_len]; exact hi)
    have b := drop_le (gl r) P' i (by rw [gl_len]; exact hi)
    rw [← gl_out, gl_len] at a b
    rw [gl_get r i hi] at b
    have hn2 : n = rd (rowAt [r[i].f0] P' 1) (P' : Int) := hn
    dsimp only
    refine Ev.pos (by omega) (Ev.to (Ev.now _) ?_)
    rw [decide_eq_true (by omega)]
  · refine Ev.neg ?_ (Ev.now _)
    unfold dropF; rw [if_neg hd]; simp
theorem tables_up (l1 : List Int) (hb : bytesOk l1) (gs : List (List Int)) (P n : Nat) (hP : P ≤ 40) : Ev (fun k => laws_FnTables.l1 k l1 (rowAt gs P n) 1) true := by
  have hlen := rowAt_len gs P n
  have key := ev_up P (fun k i => laws_FnTables.l1 k l1 (rowAt gs P n) ((i + 1 : Nat) : Int)) true (fun _ => True) trivial ?_ ?_
  · exact key
  · intro _
    refine Ev.succ ?_
    simp only [laws_FnTables.l1]
    exact Ev.neg (by rw [hlen]; omega) (tables_rest l1 hb)
  · intro i hi _ hn
    refine Ev.succ ?_
    simp only [laws_FnTables.l1]
    rw [w64 (x := ((i + 1 : Nat) : Int) - 1) (by omega) (by omega), w64 (x := ((i + 1 : Nat) : Int) + 1) (by omega) (by omega), show ((i + 1 : Nat) : Int) - 1 = (i : Int) by omega]
    have h := rowAt_up gs P n i (i + 1) (by omega) (by omega)
    exact Ev.pos (by rw [hlen]; omega) (Ev.pos (by omega) (Ev.pos (by omega) (Ev.pos (by rw [hlen]; omega) (Ev.neg (by omega) (hn trivial)))))
theorem tables_turned (l1 : List Int) (hb : bytesOk l1) (l : List S53) (hl : l.length ≤ 100) (hg : ∀ o ∈ l, o.f0.length ≤ 100) (P : Nat) (hof : offered l (P : Int) = true) :
    ∀ i : Nat, i ≤ l.length → Ev (fun k => laws_FnTables.l0 k l1 l (P : Int) (rowAt (gl l) P l.length) ((l.drop i).reverse) ((i : Int) - 1)) true := by
  obtain ⟨ho, _, hpp, hP⟩ := offered_iff hof
  obtain rfl := Int.ofNat.inj hpp
  obtain ⟨h12, _⟩ := (offersOk_iff l).mp ho
  have hr : ∀ o ∈ l, o.f0.length ≤ 1048576 := fun o ho => by have := hg o ho; omega
  intro i
  induction i with
  | zero =>
    intro _
    have hlen := rowAt_len (gl l) P l.length
    have hrev : offered l.reverse (P : Int) = true := by
      unfold offered offersOk at hof ⊢
      simp only [Bool.and_eq_true, decide_eq_true_eq, List.all_eq_true, List.length_reverse, List.mem_reverse] at hof ⊢
      exact hof
    have et : tableF l.reverse (P : Int) = (rowAt (gl l) P l.length, true) := by
      unfold tableF
      rw [if_pos hrev, toNat_nat, List.length_reverse, show gl l.reverse = (gl l).reverse by simp [gl]]
      have := rowAt_rev (gl l) P
      rw [gl_len] at this
      rw [this]
    have hI1 := impl_BestTable_ev l.reverse (P : Int) (by simp; omega) (fun o ho => hr o (List.mem_reverse.mp ho))
    rw [et] at hI1
    obtain ⟨cs, n, ok, hI, _, rfl, _, hx⟩ := BestChoice_ev l (P : Int) (by omega) hr
    obtain ⟨P', hPP, _, hn, _⟩ := hx hof
    obtain rfl : P' = P := by omega
    refine Ev.succ ?_
    simp only [laws_FnTables.l0, List.drop_zero]
    refine Ev.neg (by omega) (Ev.bind hI1 (Ev.bind hI (Ev.pos (by rw [hlen, w64 (by omega) (by omega)]; omega) (Ev.pos (by rw [hlen]; omega) (Ev.pos (rowAt_none _ _ _) (Ev.pos rfl (Ev.bind (laws_same_ev _ (by rw [hlen]; omega)) (Ev.pos rfl (Ev.pos hof (Ev.pos (by omega) (Ev.pos (by rw [hlen]; omega) (Ev.succ ?_))))))))))))
    simp only [laws_FnTables.j2]
    rw [hn]
    exact Ev.neg (by simp) (tables_up l1 hb (gl l) P' l.length (by omega))
  | succ i ih =>
    intro hi
    have hi' : i < l.length := by omega
    refine Ev.succ ?_
    simp only [laws_FnTables.l0]
    rw [show ((i + 1 : Nat) : Int) - 1 = (i : Int) by omega, offer_rd l i hi', w64 (x := (i : Int) - 1) (by omega) (by omega)]
    refine Ev.pos (by omega) (Ev.pos (by omega) (Ev.pos (by omega) (Ev.pos (by simp; omega) ?_)))
    have e : (l.drop (i + 1)).reverse ++ [(⟨l[i].f0⟩ : S53)] = (l.drop i).reverse := by
      rw [List.drop_eq_getElem_cons hi', List.reverse_cons]
    rw [e]
    exact ih (by omega)
theorem FnTables : laws_FnTables.Pure := by
  intro l0 l1 _ hl0 hw0 _ hl1 hw1
  have b0 := bytesOk_of l0 hw0
  have b1 := bytesOk_of l1 hw1
  refine Ev.rounds (g := fun k => laws_FnTables.f k l0 l1) ?_
  unfold laws_FnTables.f
  refine Ev.ite (fun _ => Ev.now _) fun hs => ?_
  obtain ⟨l, p, ed, hl, hg⟩ := spec_DrawBestTable_ev l0 b0
  have hr : ∀ o ∈ l, o.f0.length ≤ 1048576 := fun o ho => by have := hg o ho; omega
  refine Ev.bind ed (Ev.bind (impl_BestTable_ev l p (by omega) hr) (Ev.bind (spec_BestTable_ev l p (by omega) hr) (Ev.neg (by simp) ?_)))
  have hT : (tableF l p).1.length ≤ 1048576 := by
    unfold tableF
    split
    · rename_i h
      obtain ⟨_, P, rfl, hP⟩ := offered_iff h
      dsimp only; rw [rowAt_len, toNat_nat]; omega
    · simp
  refine Ev.bind (laws_same_ev _ (Nat.le_trans hT (by decide))) (Ev.succ ?_)
  simp only [laws_FnTables.j0, Bool.not_true, Bool.false_eq_true, if_false]
  by_cases hof : offered l p = true
  · obtain ⟨ho, P, rfl, hP⟩ := offered_iff hof
    have e : tableF l (P : Int) = (rowAt (gl l) P l.length, true) := by unfold tableF; rw [if_pos hof, toNat_nat]
    rw [e]
    refine Ev.pos rfl ?_
    rw [w64 (by omega) (by omega)]
    have := tables_turned l1 b1 l hl hg P hof l.length (Nat.le_refl _)
    rw [List.drop_length] at this
    exact this
  · have e : tableF l p = ([], false) := by unfold tableF; rw [if_neg hof]
    rw [e]
    exact Ev.neg (by simp) (tables_rest l1 b1)
end Go.Proofs.Ytpagpbamdpllnaa.Pure
